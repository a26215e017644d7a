/- Walks. -/
import Derived.Test.YtldahjcikmpifaaGreatWIR2
set_option linter.all false
namespace Go.R
open Go Go.Proofs
set_option linter.unusedVariables false
set_option linter.unusedSimpArgs false
set_option maxHeartbeats 8000000
/- slices.pdqsortCmpFunc[impl.Atom] -/
def d4c:a0p :=
 (.seq (.reg (tm 10 (.c (.bool true)) .done))
 (.seq (.reg (tm 11 (.c (.bool true)) .done))
 (.block 0 (.loop (.block 1 (.seq (.reg (tm 21 (.t 2) (tm 22 (.t 1) (tq 23 (.bin .sub (.t 21) (.t 22)) (tm 12 (.t 23) .done)))))
 (.seq (.seq (.reg (tm 24 (.t 12) (tq 25 (.bin .leq (.t 24) (.c (.int .i64 12))) .done)))
 (.cond (.t 25) (.seq (.reg (tm 26 (.t 0) (tm 27 (.t 1) (tm 28 (.t 2) (tm 29 (.t 4) (tq 30 (.call 399 [(.t 26),(.t 27),(.t 28),(.t 29)]) .done))))))
 .ret)
 .skip))
 (.seq (.seq (.reg (tm 31 (.t 3) (tq 32 (.bin .eql (.t 31) (.c (.int .i64 0))) .done)))
 (.cond (.t 32) (.seq (.reg (tm 33 (.t 0) (tm 34 (.t 1) (tm 35 (.t 2) (tm 36 (.t 4) (tq 37 (.call 400 [(.t 33),(.t 34),(.t 35),(.t 36)]) .done))))))
 .ret)
 .skip))
 (.seq (.seq (.reg (tm 38 (.t 10) (tq 39 (.not (.t 38)) .done)))
 (.cond (.t 39) (.seq (.reg (tm 40 (.t 0) (tm 41 (.t 1) (tm 42 (.t 2) (tm 43 (.t 4) (tq 44 (.call 401 [(.t 40),(.t 41),(.t 42),(.t 43)]) .done))))))
 (.reg (tm 45 (.t 3) (tq 46 (.bin .sub (.t 45) (.c (.int .i64 1))) (tm 3 (.t 46) .done)))))
 .skip))
 (.seq (.reg (tm 48 (.t 0) (tm 49 (.t 1) (tm 50 (.t 2) (tm 51 (.t 4) (tq 52 (.call 402 [(.t 48),(.t 49),(.t 50),(.t 51)]) (tm 47 (.t 52) (tq 53 (.extract 0 (.t 47)) (tq 54 (.extract 1 (.t 47)) (tm 13 (.t 53) (tm 14 (.t 54) .done)))))))))))
 (.seq (.seq (.reg (tm 55 (.t 14) (tq 56 (.bin .eql (.t 55) (.c (.int .i64 2))) .done)))
 (.cond (.t 56) (.seq (.reg (tm 57 (.t 0) (tm 58 (.t 1) (tm 59 (.t 2) (tm 60 (.t 4) (tq 61 (.call 403 [(.t 57),(.t 58),(.t 59),(.t 60)]) .done))))))
 (.seq (.reg (tm 62 (.t 2) (tq 63 (.bin .sub (.t 62) (.c (.int .i64 1))) (tm 64 (.t 13) (tm 65 (.t 1) (tq 66 (.bin .sub (.t 64) (.t 65)) (tq 67 (.bin .sub (.t 63) (.t 66)) (tm 13 (.t 67) .done))))))))
 (.reg (tm 14 (.c (.int .i64 1)) .done))))
 .skip))
 (.seq (.seq (.reg (tm 68 (.t 10) (tm 69 (.t 68) (tg 70 69 true (.mov (.t 11)) (tq 71 (.pick (.t 69) (.t 70) (.c (.bool false))) (tm 72 (.t 71) (tg 73 72 true (.mov (.t 14)) (tg 74 72 true (.bin .eql (.t 73) (.c (.int .i64 1))) (tq 75 (.pick (.t 72) (.t 74) (.c (.bool false))) .done)))))))))
 (.cond (.t 75) (.seq (.reg (tm 76 (.t 0) (tm 77 (.t 1) (tm 78 (.t 2) (tm 79 (.t 4) (tq 80 (.call 404 [(.t 76),(.t 77),(.t 78),(.t 79)]) .done))))))
 (.cond (.t 80) .ret
 .skip))
 .skip))
 (.seq (.seq (.reg (tm 81 (.t 1) (tq 82 (.bin .gtr (.t 81) (.c (.int .i64 0))) (tm 83 (.t 82) (tg 84 83 true (.mov (.t 4)) (tg 85 83 true (.mov (.t 0)) (tg 86 83 true (.mov (.t 1)) (tg 87 83 true (.bin .sub (.t 86) (.c (.int .i64 1))) (tg 88 83 true (.iaddr 3 (.t 85) (.t 87)) (tg 89 83 true (.load 3 true (.t 88)) (tg 90 83 true (.mov (.t 0)) (tg 91 83 true (.mov (.t 13)) (tg 92 83 true (.iaddr 3 (.t 90) (.t 91)) (tg 93 83 true (.load 3 true (.t 92)) (.l ⟨(some 94),(some (83,true)),.calv (.t 84) [(.t 89),(.t 93)]⟩ []
 (tg 95 83 true (.bin .lss (.t 94) (.c (.int .i64 0))) (tg 96 83 true (.not (.t 95)) (tq 97 (.pick (.t 83) (.t 96) (.c (.bool false))) .done))) .non)))))))))))))))
 (.cond (.t 97) (.seq (.reg (tm 98 (.t 0) (tm 99 (.t 1) (tm 100 (.t 2) (tm 101 (.t 13) (tm 102 (.t 4) (tq 103 (.call 405 [(.t 98),(.t 99),(.t 100),(.t 101),(.t 102)]) (tm 15 (.t 103) .done))))))))
 (.seq (.reg (tm 104 (.t 15) (tm 1 (.t 104) .done)))
 (.exit 1)))
 .skip))
 (.seq (.reg (tm 106 (.t 0) (tm 107 (.t 1) (tm 108 (.t 2) (tm 109 (.t 13) (tm 110 (.t 4) (tq 111 (.call 406 [(.t 106),(.t 107),(.t 108),(.t 109),(.t 110)]) (tm 105 (.t 111) (tq 112 (.extract 0 (.t 105)) (tq 113 (.extract 1 (.t 105)) (tm 16 (.t 112) (tm 17 (.t 113) .done))))))))))))
 (.seq (.reg (tm 114 (.t 17) (tm 11 (.t 114) .done)))
 (.seq (.reg (tm 115 (.t 16) (tm 116 (.t 1) (tq 117 (.bin .sub (.t 115) (.t 116)) (tm 118 (.t 2) (tm 119 (.t 16) (tq 120 (.bin .sub (.t 118) (.t 119)) (tm 18 (.t 117) (tm 19 (.t 120) .done)))))))))
 (.seq (.reg (tm 121 (.t 12) (tq 122 (.bin .quo (.t 121) (.c (.int .i64 8))) (tm 20 (.t 122) .done))))
 (.seq (.reg (tm 123 (.t 18) (tm 124 (.t 19) (tq 125 (.bin .lss (.t 123) (.t 124)) .done))))
 (.cond (.t 125) (.seq (.reg (tm 126 (.t 18) (tm 127 (.t 20) (tq 128 (.bin .geq (.t 126) (.t 127)) (tm 10 (.t 128) .done)))))
 (.seq (.reg (tm 129 (.t 0) (tm 130 (.t 1) (tm 131 (.t 16) (tm 132 (.t 3) (tm 133 (.t 4) (tq 134 (.call 385 [(.t 129),(.t 130),(.t 131),(.t 132),(.t 133)]) .done)))))))
 (.reg (tm 135 (.t 16) (tq 136 (.bin .add (.t 135) (.c (.int .i64 1))) (tm 1 (.t 136) .done))))))
 (.seq (.reg (tm 137 (.t 19) (tm 138 (.t 20) (tq 139 (.bin .geq (.t 137) (.t 138)) (tm 10 (.t 139) .done)))))
 (.seq (.reg (tm 140 (.t 0) (tm 141 (.t 16) (tq 142 (.bin .add (.t 141) (.c (.int .i64 1))) (tm 143 (.t 2) (tm 144 (.t 3) (tm 145 (.t 4) (tq 146 (.call 385 [(.t 140),(.t 142),(.t 143),(.t 144),(.t 145)]) .done))))))))
 (.reg (tm 147 (.t 16) (tm 2 (.t 147) .done))))))))))))))))))))))))
theorem d8c:a1b Tryz.prog Tryz.f385 = some (d4c.erase,[],148):=by kernel_rfl
def a1m (b_3:Int) (a_2:Int) (data_1:(List x8)):Nat → Option (List x8)
  | 0 => none
  | k + 1 =>
    if (decide (w64 (b_3 - a_2) ≤ 12)) then
    (a1w data_1 a_2 b_3).bind fun r_15 =>
    some r_15
    else
    none

def a3g (rec:((List x8) → Int → Int → Int → Option (List x8))) (data_1:(List x8)) (a_2:Int) (b_3:Int) (limit_4:Int):Option (List x8) :=
    a1m b_3 a_2 data_1 FUEL 
theorem a8t (rec:((List x8) → Int → Int → Int → Option (List x8))) (hrec:∀ a0 a1 a2 a3 r,rec a0 a1 a2 a3 = some r → a0j Tryz.prog true 385 [(.own 0 0 a0.length),(.int .i64 a1),(.int .i64 a2),(.int .i64 a3),(.fn 227 [])] [.row 3 (a0.map l9)] (.tup []) [.row 3 (r.map l9)]) (data_1:(List x8)) (a_2:Int) (b_3:Int) (limit_4:Int) (r:(List x8)) (hf:a3g rec data_1 a_2 b_3 limit_4 = some r):a0j Tryz.prog true 385 [(.own 0 0 data_1.length),(.int .i64 a_2),(.int .i64 b_3),(.int .i64 limit_4),(.fn 227 [])] [.row 3 (data_1.map l9)] (.tup []) [.row 3 (r.map l9)]:=by
 refine a0j.of_awp mixed Tryz.func385 d8c nle ?_;rw [a0f];unfold a3g at hf;unfold d4c;refine (show awp Tryz.prog true 1 _ (ofL [(0,(.own 0 0 data_1.length)),(1,(.int .i64 a_2)),(2,(.int .i64 b_3)),(3,(.int .i64 limit_4)),(4,(.fn 227 []))]) [.row 3 (data_1.map l9)] _ from ?_);refine sr<|l7 (.bool true) rfl<|dk<|sr<|l7 (.bool true) rfl<|dk<|?_;refine a1v (X:={q:Nat // a1m b_3 a_2 data_1 q = some r}) (fun q => ([(0,(.own 0 0 data_1.length)),(1,(.int .i64 a_2)),(2,(.int .i64 b_3)),(3,(.int .i64 limit_4)),(4,(.fn 227 [])),(10,(.bool true)),(11,(.bool true))],[.row 3 (data_1.map l9)])) (fun q => q.1) ⟨FUEL,hf⟩ ⟨[],[0],_,_,rfl,rfl,⟨.refl _,⟨.refl _,⟨.refl _,⟨.refl _,⟨.refl _,⟨.refl _,⟨.refl _,trivial⟩⟩⟩⟩⟩⟩⟩,(.refl _)⟩ ?_
 rintro ⟨k,hc1⟩
 have hc1:a1m b_3 a_2 data_1 k  = some r:=hc1
 refine (show awp Tryz.prog true 1 _ (ofL [(0,(.own 0 0 data_1.length)),(1,(.int .i64 a_2)),(2,(.int .i64 b_3)),(3,(.int .i64 limit_4)),(4,(.fn 227 [])),(10,(.bool true)),(11,(.bool true))]) [.row 3 (data_1.map l9)] _ from ?_)
 rcases k with _ | k
 ·rw [a1m.eq_1] at hc1
  cases hc1
 ·rw [a1m.eq_2] at hc1;refine a3s<|sr<|l7 (.int .i64 b_3) rfl<|l7 (.int .i64 a_2) rfl<|o7 (.int .i64 (w64 (b_3 - a_2))) rfl rfl rfl<|l7 (.int .i64 (w64 (b_3 - a_2))) rfl<|dk<|o6<|sr<|l7 (.int .i64 (w64 (b_3 - a_2))) rfl<|o7 (.bool (decide (w64 (b_3 - a_2) ≤ 12))) rfl rfl rfl<|dk<|?_
  rcases oi hc1 with ⟨c14,hc1⟩ | ⟨c14,hc1⟩
  ·refine a0b rfl c14<|sr<|?_
   obtain ⟨r_15,er16,hc1⟩:=ob hc1
   refine l7 (.own 0 0 data_1.length) rfl<|l7 (.int .i64 a_2) rfl<|l7 (.int .i64 b_3) rfl<|l7 (.fn 227 []) rfl<|?_;refine a1n (b4b (v:=(.tup [])) (h2:=[.row 3 (r_15.map l9)]) [] [0] (fun _ => rfl) (a7t _ _ _ _ er16) rfl (.refl _) (.refl _) rfl rfl) fun hl17 => ?_;refine dk<|a0d<|?_;obtain rfl:=os hc1;exact a3a [] [0] rfl trivial rfl (.refl _) (.refl _)
  ·cases hc1
def a1p:Nat → (List x8) → Int → Int → Int → Option (List x8)
 | 0,_,_,_,_ => none
 | k + 1,data_1,a_2,b_3,limit_4 => a3g (a1p k) data_1 a_2 b_3 limit_4
theorem a6b:∀ (k:Nat) (data_1:(List x8)) (a_2:Int) (b_3:Int) (limit_4:Int) (r:(List x8)),a1p k data_1 a_2 b_3 limit_4 = some r → a0j Tryz.prog true 385 [(.own 0 0 data_1.length),(.int .i64 a_2),(.int .i64 b_3),(.int .i64 limit_4),(.fn 227 [])] [.row 3 (data_1.map l9)] (.tup []) [.row 3 (r.map l9)]
 | 0,data_1,a_2,b_3,limit_4,r,h => by rw [a1p.eq_1] at h;cases h
 | k + 1,data_1,a_2,b_3,limit_4,r,h => by
  rw [a1p.eq_2] at h;exact a8t _ (a6b k) data_1 a_2 b_3 limit_4 r h

/- slices.SortFunc[[]impl.Atom,impl.Atom] -/
def d4d:a0p :=
 (.seq (.reg (tm 5 (.t 0) (tq 6 (.len (.t 5)) (tm 4 (.t 6) .done))))
 (.reg (tm 7 (.t 0) (tm 8 (.t 4) (tm 9 (.t 4) (tq 10 (.convI .u64 (.t 9)) (tq 11 (.call 288 [(.t 10)]) (tm 12 (.t 1) (tq 13 (.call 385 [(.t 7),(.c (.int .i64 0)),(.t 8),(.t 11),(.t 12)]) .done)))))))))
theorem d8d:a1b Tryz.prog Tryz.f352 = some (d4d.erase,[],14):=by kernel_rfl
def a2d (x_1:(List x8)):Option (List x8) :=
    (a6z (IntKind.u64.wrap (x_1.length:Int))).bind fun r_3 =>
    (a1p FUEL x_1 0 (x_1.length:Int) r_3).bind fun r_5 =>
    some r_5
theorem a8e (x_1:(List x8)) (r:(List x8)) (hf:a2d x_1 = some r):a0j Tryz.prog true 352 [(.own 0 0 x_1.length),(.fn 227 [])] [.row 3 (x_1.map l9)] (.tup []) [.row 3 (r.map l9)]:=by
 refine a0j.of_awp mixed Tryz.func352 d8d nle ?_;rw [a0f];unfold a2d at hf;unfold d4d;refine (show awp Tryz.prog true 1 _ (ofL [(0,(.own 0 0 x_1.length)),(1,(.fn 227 []))]) [.row 3 (x_1.map l9)] _ from ?_);refine sr<|l7 (.own 0 0 x_1.length) rfl<|a1n (a6h rfl rfl) fun hl2 => l7 (.int .i64 (x_1.length:Int)) rfl<|dk<|a0z<|?_
 obtain ⟨r_3,er4,hf⟩:=ob hf
 obtain ⟨r_5,er6,hf⟩:=ob hf
 refine l7 (.own 0 0 x_1.length) rfl<|l7 (.int .i64 (x_1.length:Int)) rfl<|l7 (.int .i64 (x_1.length:Int)) rfl<|o7 (.int .u64 (IntKind.u64.wrap (x_1.length:Int))) rfl trivial rfl<|o8 (a1f (b5i _ _ er4) rfl (.refl _) rfl)<|l7 (.fn 227 []) rfl<|?_;refine a1n (b4b (v:=(.tup [])) (h2:=[.row 3 (r_5.map l9)]) [] [0] (fun _ => rfl) (a6b FUEL _ _ _ _ _ er6) rfl (.refl _) (.refl _) rfl rfl) fun hl7 => ?_;refine a0e ?_;obtain rfl:=os hf;exact a3a [] [0] rfl trivial rfl (.refl _) (.refl _)

/- slices.Compact[[]impl.Atom,impl.Atom] -/
def d4e:a0p :=
 (.seq (.reg (tm 2 (.c .nil) .done))
 (.seq (.seq (.reg (tm 6 (.t 0) (tq 7 (.len (.t 6)) (tq 8 (.bin .lss (.t 7) (.c (.int .i64 2))) .done))))
 (.cond (.t 8) (.seq (.reg (tm 9 (.t 0) (tm 2 (.t 9) .done)))
 .ret)
 .skip))
 (.seq (.seq (.reg (tm 3 (.c (.int .i64 1)) .done))
 (.block 0 (.loop (.seq (.seq (.reg (tm 10 (.t 3) (tm 11 (.t 0) (tq 12 (.len (.t 11)) (tq 13 (.bin .lss (.t 10) (.t 12)) .done)))))
 (.cond (.t 13) .skip
 (.exit 0)))
 (.seq (.block 1 (.seq (.reg (tm 16 (.t 0) (tm 17 (.t 3) (tq 18 (.iaddr 3 (.t 16) (.t 17)) (tq 19 (.load 3 true (.t 18)) (tm 20 (.t 0) (tm 21 (.t 3) (tq 22 (.bin .sub (.t 21) (.c (.int .i64 1))) (tq 23 (.iaddr 3 (.t 20) (.t 22)) (tq 24 (.load 3 true (.t 23)) (tq 25 (.eqs false [0,0,2] (.t 19) (.t 24)) .done)))))))))))
 (.cond (.t 25) (.seq (.reg (tm 26 (.t 0) (tm 27 (.t 3) (tq 28 (.slice 3 (.t 26) (some (.t 27)) none) (tm 4 (.t 28) .done)))))
 (.seq (.seq (.reg (tm 5 (.c (.int .i64 1)) .done))
 (.block 2 (.loop (.seq (.seq (.reg (tm 29 (.t 5) (tm 30 (.t 4) (tq 31 (.len (.t 30)) (tq 32 (.bin .lss (.t 29) (.t 31)) .done)))))
 (.cond (.t 32) .skip
 (.exit 2)))
 (.seq (.block 3 (.seq (.reg (tm 35 (.t 4) (tm 36 (.t 5) (tq 37 (.iaddr 3 (.t 35) (.t 36)) (tq 38 (.load 3 true (.t 37)) (tm 39 (.t 4) (tm 40 (.t 5) (tq 41 (.bin .sub (.t 40) (.c (.int .i64 1))) (tq 42 (.iaddr 3 (.t 39) (.t 41)) (tq 43 (.load 3 true (.t 42)) (tq 44 (.eqs true [0,0,2] (.t 38) (.t 43)) .done)))))))))))
 (.cond (.t 44) (.seq (.reg (tm 45 (.t 0) (tm 46 (.t 3) (tm 47 (.t 4) (tm 48 (.t 5) (tq 49 (.iaddr 3 (.t 47) (.t 48)) (tq 50 (.load 3 true (.t 49)) (tq 51 (.iaddr 3 (.t 45) (.t 46)) (.q ⟨none,none,.store 3 (.t 51) (.t 50)⟩
 .done)))))))))
 (.reg (tm 52 (.t 3) (tq 53 (.bin .add (.t 52) (.c (.int .i64 1))) (tm 3 (.t 53) .done)))))
 .skip)))
 (.reg (tm 33 (.t 5) (tq 34 (.bin .add (.t 33) (.c (.int .i64 1))) (tm 5 (.t 34) .done)))))))))
 (.cut (.seq (.reg (tm 54 (.t 0) (tm 55 (.t 3) (tq 56 (.slice 3 (.t 54) (some (.t 55)) none) (.q ⟨none,none,.clr 3 (.agg [(.int .i64 0),(.int .i64 0),(.str [])]) (.t 56)⟩
 .done)))))
 (.seq (.reg (tm 57 (.t 0) (tm 58 (.t 3) (tq 59 (.slice 3 (.t 57) none (some (.t 58))) (tm 2 (.t 59) .done)))))
 .ret)))))
 .skip)))
 (.reg (tm 14 (.t 3) (tq 15 (.bin .add (.t 14) (.c (.int .i64 1))) (tm 3 (.t 15) .done)))))))))
 (.cut (.seq (.reg (tm 60 (.t 0) (tm 2 (.t 60) .done)))
 .ret)))))
theorem d8e:a1b Tryz.prog Tryz.f353 = some (d4e.erase,[.mov (.t 2)],61):=by kernel_rfl
def a0n (s_1:(List x8)) (k_235:Nat):Nat → Int → Int → (List x8) → Option (Int × (List x8))
  | 0,_,_,_ => none
  | k + 1,k_439,k2_440,s_441 =>
    if (decide (k2_440 < (((s_1.length - k_235):Nat):Int))) then
    if (0:Int) ≤ k2_440 ∧ k2_440 < (((s_1.length - k_235):Nat):Int) then
    (s_441[(k_235 + k2_440.toNat)]?).bind fun x_461 =>
    if (0:Int) ≤ w64 (k2_440 - 1) ∧ w64 (k2_440 - 1) < (((s_1.length - k_235):Nat):Int) then
    (s_441[(k_235 + (w64 (k2_440 - 1)).toNat)]?).bind fun x_464 =>
    if (!(x_461.Kind == x_464.Kind && (x_461.N == x_464.N && (x_461.T == x_464.T && true)))) then
    if (0:Int) ≤ k2_440 ∧ k2_440 < (((s_1.length - k_235):Nat):Int) then
    if (0:Int) ≤ k_439 ∧ k_439 < (s_441.length:Int) then
    (s_441[(0 + k_439.toNat)]?).bind fun x_469 =>
    a0n s_1 k_235 k (w64 (k_439 + 1)) (w64 (k2_440 + 1)) (s_441.set (0 + k_439.toNat) x_461)
    else none
    else none
    else
    a0n s_1 k_235 k k_439 (w64 (k2_440 + 1)) s_441
    else none
    else none
    else
    some (k_439,s_441)

def a0t (s_1:(List x8)):List x8 → Nat → Option (Fl (List x8) Unit)
  | [],k_235 =>
    some (.go ())
  | x_359 :: xs,k_235 =>
    if k_235 < s_1.length then
    if (0:Int) ≤ w64 ((k_235:Int) - 1) ∧ w64 ((k_235:Int) - 1) < (s_1.length:Int) then
    (s_1[(0 + (w64 ((k_235:Int) - 1)).toNat)]?).bind fun x_364 =>
    if (x_359.Kind == x_364.Kind && (x_359.N == x_364.N && (x_359.T == x_364.T && true))) then
    if (0:Int) ≤ (k_235:Int) ∧ (k_235:Int) ≤ (s_1.length:Int) then
    (a0n s_1 k_235 FUEL (k_235:Int) 1 s_1).bind fun p457 =>
    (match p457 with
    | (k_455,s_456) =>
    if (0:Int) ≤ k_455 ∧ k_455 ≤ (s_456.length:Int) then
    if (0:Int) ≤ k_455 ∧ k_455 ≤ (s_456.length:Int) then
    some (.ret ((s_456.take k_455.toNat ++ List.replicate (s_456.length - k_455.toNat) (⟨0,0,[]⟩:x8) ++ s_456.drop (k_455.toNat + (s_456.length - k_455.toNat))).take k_455.toNat))
    else none
    else none)
    else none
    else
    a0t s_1 xs (k_235 + 1)
    else none
    else none

def a2f (s_1:(List x8)):Option (List x8) :=
    if (decide ((s_1.length:Int) < 2)) then
    some s_1
    else
    (a0t s_1 (s_1.drop 1) 1).bind fun q => (match q with
    | .ret r => some r
    | .go _ =>
    some s_1)
theorem a8h (s_1:(List x8)) (r:(List x8)) (hf:a2f s_1 = some r):a0j Tryz.prog true 353 [(.own 0 0 s_1.length)] [.row 3 (s_1.map l9)] (.own 1 0 r.length) [.dead,.row 3 (r.map l9)]:=by
 refine a0j.of_awp mixed Tryz.func353 d8e nle ?_;rw [a0f];unfold a2f at hf;unfold d4e;refine (show awp Tryz.prog true 1 _ (ofL [(0,(.own 0 0 s_1.length))]) [.row 3 (s_1.map l9)] _ from ?_);refine sr<|l7 .nil rfl<|dk<|o6<|sr<|l7 (.own 0 0 s_1.length) rfl<|a1n (a6h rfl rfl) fun hl2 => o7 (.bool (decide ((s_1.length:Int) < 2))) rfl rfl rfl<|dk<|?_
 rcases oi hf with ⟨c3,hf⟩ | ⟨c3,hf⟩
 ·refine a0b rfl c3<|sr<|l7 (.own 0 0 s_1.length) rfl<|l7 (.own 0 0 s_1.length) rfl<|dk<|a0d<|?_;obtain rfl:=os hf;exact a3a [.mv 0] [0,1] rfl ⟨trivial,trivial⟩ rfl (.refl _) (.refl _)
 ·refine a0c rfl (bf c3)<|a0i<|a0h<|o6<|sr<|l7 (.int .i64 1) rfl<|dk<|?_
  obtain ⟨p352,hb1,hf⟩:=ob hf
  refine a4k (X:={q:Unit // p352 = .go q}) (fun q => ([(0,(.own 0 0 s_1.length))],[.row 3 (s_1.map l9)])) ?_ ?_
  ·refine a1v (X:={q:Nat // a0t s_1 (s_1.drop q) q = some p352}) (fun q => ([(0,(.own 0 0 s_1.length)),(3,(.int .i64 (q.1:Int)))],[.row 3 (s_1.map l9)])) (fun q => s_1.length - q.1) ⟨1,hb1⟩ ⟨[],[0],_,_,rfl,rfl,⟨.refl _,⟨.refl _,trivial⟩⟩,(.refl _)⟩ ?_
   rintro ⟨k_235,hc1⟩
   have hc1:a0t s_1 (s_1.drop k_235) k_235 = some p352:=hc1
   refine (show awp Tryz.prog true 1 _ (ofL [(0,(.own 0 0 s_1.length)),(3,(.int .i64 (k_235:Int)))]) [.row 3 (s_1.map l9)] _ from ?_)
   rcases a7j s_1 k_235 with ⟨hie355,hd358⟩ | ⟨hlt353,x_359,hx354,hd358⟩
   ·rw [hd358,a0t.eq_1] at hc1
    have hq357:=dlf hie355
    refine o6<|sr<|l7 (.int .i64 (k_235:Int)) rfl<|l7 (.own 0 0 s_1.length) rfl<|a1n (a6h rfl rfl) fun hl360 => o7 (.bool (decide ((k_235:Int) < (s_1.length:Int)))) rfl rfl rfl<|dk<|a0c rfl hq357<|a4b<|a4a<|a2w<|a3z<|?_;obtain rfl:=os hc1;exact a5z ⟨_,rfl⟩ ⟨[],[0],_,_,rfl,rfl,⟨.refl _,trivial⟩,(.refl _)⟩
   ·rw [hd358,a0t.eq_2] at hc1
    have hq357:=dlt hlt353
    refine o6<|sr<|l7 (.int .i64 (k_235:Int)) rfl<|l7 (.own 0 0 s_1.length) rfl<|a1n (a6h rfl rfl) fun hl361 => o7 (.bool (decide ((k_235:Int) < (s_1.length:Int)))) rfl rfl rfl<|dk<|a0b rfl hq357<|a0i<|a0h<|o6<|a3s<|sr<|?_
    obtain ⟨g362,hc1⟩:=og hc1
    obtain ⟨g363,hc1⟩:=og hc1
    obtain ⟨x_364,ex365,hc1⟩:=ob hc1
    refine l7 (.own 0 0 s_1.length) rfl<|l7 (.int .i64 (k_235:Int)) rfl<|o8 (b6b rfl rfl g362 rfl rfl)<|o8 (a3r (enc:=l9) (v:=(l9 x_359)) rfl rfl hx354 nle rfl)<|l7 (.own 0 0 s_1.length) rfl<|l7 (.int .i64 (k_235:Int)) rfl<|o7 (.int .i64 (w64 ((k_235:Int) - 1))) rfl rfl rfl<|o8 (a2i rfl rfl g363.1 g363.2 rfl rfl)<|o8 (a3r (enc:=l9) (v:=(l9 x_364)) rfl rfl ex365 nle rfl)<|o7 (.bool (x_359.Kind == x_364.Kind && (x_359.N == x_364.N && (x_359.T == x_364.T && true)))) rfl ⟨⟨rfl,rfl⟩,⟨⟨rfl,rfl⟩,⟨rfl,trivial⟩⟩⟩ rfl<|dk<|?_
    rcases oi hc1 with ⟨c366,hc1⟩ | ⟨c366,hc1⟩
    ·refine a0b rfl c366<|sr<|?_
     obtain ⟨g367,hc1⟩:=og hc1
     refine l7 (.own 0 0 s_1.length) rfl<|l7 (.int .i64 (k_235:Int)) rfl<|o8 (c0s rfl rfl rfl g367.1 g367.2)<|l7 (.own 0 k_235 (s_1.length - k_235)) rfl<|dk<|o6<|sr<|l7 (.int .i64 1) rfl<|dk<|?_
     obtain ⟨p457,hb2,hc1⟩:=ob hc1
     refine a2v ([(0,(.own 0 0 p457.2.length)),(3,(.int .i64 p457.1))],[.row 3 (p457.2.map l9)]) ?_ ?_
     ·refine a1v (X:={q:(Nat × Int × Int × (List x8)) // a0n s_1 k_235 q.1 q.2.1 q.2.2.1 q.2.2.2 = some p457}) (fun q => ([(0,(.own 0 0 q.1.2.2.2.length)),(3,(.int .i64 q.1.2.1)),(4,(.own 0 k_235 (s_1.length - k_235))),(5,(.int .i64 q.1.2.2.1))],[.row 3 (q.1.2.2.2.map l9)])) (fun q => q.1.1) ⟨(FUEL,(k_235:Int),1,s_1),hb2⟩ ⟨[],[0],_,_,rfl,rfl,⟨.refl _,⟨.refl _,⟨.refl _,⟨.refl _,trivial⟩⟩⟩⟩,(.refl _)⟩ ?_
      rintro ⟨⟨k,k_439,k2_440,s_441⟩,hc2⟩
      have hc2:a0n s_1 k_235 k k_439 k2_440 s_441 = some p457:=hc2
      refine (show awp Tryz.prog true 1 _ (ofL [(0,(.own 0 0 s_441.length)),(3,(.int .i64 k_439)),(4,(.own 0 k_235 (s_1.length - k_235))),(5,(.int .i64 k2_440))]) [.row 3 (s_441.map l9)] _ from ?_)
      rcases k with _ | k
      ·rw [a0n.eq_1] at hc2
       cases hc2
      ·rw [a0n.eq_2] at hc2;refine o6<|sr<|l7 (.int .i64 k2_440) rfl<|l7 (.own 0 k_235 (s_1.length - k_235)) rfl<|a1n (a6h rfl rfl) fun hl458 => o7 (.bool (decide (k2_440 < (((s_1.length - k_235):Nat):Int)))) rfl rfl rfl<|dk<|?_
       rcases oi hc2 with ⟨c459,hc2⟩ | ⟨c459,hc2⟩
       ·refine a0b rfl c459<|a0i<|a0h<|o6<|a3s<|sr<|?_
        obtain ⟨g460,hc2⟩:=og hc2
        obtain ⟨x_461,ex462,hc2⟩:=ob hc2
        obtain ⟨g463,hc2⟩:=og hc2
        obtain ⟨x_464,ex465,hc2⟩:=ob hc2
        refine l7 (.own 0 k_235 (s_1.length - k_235)) rfl<|l7 (.int .i64 k2_440) rfl<|o8 (a2i rfl rfl g460.1 g460.2 rfl rfl)<|o8 (a3r (enc:=l9) (v:=(l9 x_461)) rfl rfl ex462 nle rfl)<|l7 (.own 0 k_235 (s_1.length - k_235)) rfl<|l7 (.int .i64 k2_440) rfl<|o7 (.int .i64 (w64 (k2_440 - 1))) rfl rfl rfl<|o8 (a2i rfl rfl g463.1 g463.2 rfl rfl)<|o8 (a3r (enc:=l9) (v:=(l9 x_464)) rfl rfl ex465 nle rfl)<|o7 (.bool (!(x_461.Kind == x_464.Kind && (x_461.N == x_464.N && (x_461.T == x_464.T && true))))) rfl ⟨⟨rfl,rfl⟩,⟨⟨rfl,rfl⟩,⟨rfl,trivial⟩⟩⟩ rfl<|dk<|?_
        rcases oi hc2 with ⟨c466,hc2⟩ | ⟨c466,hc2⟩
        ·refine a0b rfl c466<|sr<|?_
         obtain ⟨g467,hc2⟩:=og hc2
         obtain ⟨g468,hc2⟩:=og hc2
         obtain ⟨x_469,ex470,hc2⟩:=ob hc2
         refine l7 (.own 0 0 s_441.length) rfl<|l7 (.int .i64 k_439) rfl<|l7 (.own 0 k_235 (s_1.length - k_235)) rfl<|l7 (.int .i64 k2_440) rfl<|o8 (a2i rfl rfl g467.1 g467.2 rfl rfl)<|o8 (a3r (enc:=l9) (v:=(l9 x_461)) rfl rfl ex462 nle rfl)<|o8 (a2i rfl rfl g468.1 g468.2 rfl rfl)<|?_;refine a1i (b1a (v':=(l9 x_461)) (e':=x_461) rfl rfl ex470 rfl rfl rfl (by decide) (fun _ => by decide) ⟨rfl,nle⟩ (.refl _) rfl) ?_;refine dk<|a0z<|l7 (.int .i64 k_439) rfl<|o7 (.int .i64 (w64 (k_439 + 1))) rfl rfl rfl<|l7 (.int .i64 (w64 (k_439 + 1))) rfl<|a0e<|a3l<|a0h<|a0z<|l7 (.int .i64 k2_440) rfl<|o7 (.int .i64 (w64 (k2_440 + 1))) rfl rfl rfl<|?_
         refine l7 (.int .i64 (w64 (k2_440 + 1))) rfl<|a0e<|?_;exact a2p ⟨(k,w64 (k_439 + 1),w64 (k2_440 + 1),s_441.set (0 + k_439.toNat) x_461),hc2⟩ (Nat.lt_succ_self _) ⟨[],[0],_,_,rfl,rfl,⟨.of_eq (congrArg (AV.own _ 0) (by simp)),⟨.refl _,⟨.refl _,⟨.refl _,trivial⟩⟩⟩⟩,(.refl _)⟩
        ·refine a0c rfl (bf c466)<|a0i<|a3l<|a0h<|a0z<|l7 (.int .i64 k2_440) rfl<|o7 (.int .i64 (w64 (k2_440 + 1))) rfl rfl rfl<|l7 (.int .i64 (w64 (k2_440 + 1))) rfl<|a0e<|?_;exact a2p ⟨(k,k_439,w64 (k2_440 + 1),s_441),hc2⟩ (Nat.lt_succ_self _) ⟨[],[0],_,_,rfl,rfl,⟨.refl _,⟨.refl _,⟨.refl _,⟨.refl _,trivial⟩⟩⟩⟩,(.refl _)⟩
       ·refine a0c rfl (bf c459)<|a4b<|a4a<|a2w<|a3z<|?_;obtain rfl:=os hc2;exact ⟨[],[0],_,_,rfl,rfl,⟨.refl _,⟨.refl _,trivial⟩⟩,(.refl _)⟩
     ·obtain ⟨k_455,s_456⟩:=p457
      refine sr<|?_
      obtain ⟨g471,hc1⟩:=og hc1
      refine l7 (.own 0 0 s_456.length) rfl<|l7 (.int .i64 k_455) rfl<|o8 (c0s rfl rfl rfl g471.1 g471.2)<|a1i (e0p (enc:=l9) (y:=(⟨0,0,[]⟩:x8)) rfl rfl (.refl _) rfl)<|dk<|sr<|?_
      obtain ⟨g472,hc1⟩:=og hc1
      refine l7 (.own 0 0 s_456.length) rfl<|l7 (.int .i64 k_455) rfl<|o8 (c8u rfl rfl rfl g472.1 g472.2)<|l7 (.own 0 0 k_455.toNat) rfl<|dk<|a0d<|?_;obtain rfl:=os hc1;obtain rfl:=os hf;exact a3a [.trim 2] [0,1] rfl ⟨trivial,trivial⟩ rfl ((.cons (.refl _) (.cons ((LeO.tk (enc:=l9) (s_456.take k_455.toNat ++ List.replicate (s_456.length - k_455.toNat) (⟨0,0,[]⟩:x8) ++ s_456.drop (k_455.toNat + (s_456.length - k_455.toNat))) _)) .nil))) (.of_eq (congrArg (AV.own _ 0) (by simp)))
    ·refine a0c rfl (bf c366)<|a0i<|a3l<|a0h<|a0z<|l7 (.int .i64 (k_235:Int)) rfl<|o7 (.int .i64 (w64 ((k_235:Int) + 1))) rfl rfl rfl<|l7 (.int .i64 (w64 ((k_235:Int) + 1))) rfl<|a0e<|?_;exact a2p ⟨(k_235 + 1),hc1⟩ (mul hlt353) ⟨[],[0],_,_,rfl,rfl,⟨.refl _,⟨.of_eq (congrArg (AV.int _) (a3h hlt353 hl361)),trivial⟩⟩,(.refl _)⟩
  ·rintro ⟨_,rfl⟩
   refine sr<|l7 (.own 0 0 s_1.length) rfl<|l7 (.own 0 0 s_1.length) rfl<|dk<|a0d<|?_;obtain rfl:=os hf;exact a3a [.mv 0] [0,1] rfl ⟨trivial,trivial⟩ rfl (.refl _) (.refl _)

/- impl.setOf -/
def e4k:a0p :=
 (.seq (.reg (tm 2 (.c .nil) .done))
 (.seq (.reg (tm 4 (.t 0) (tq 5 (.call 244 [(.t 4)]) (tm 3 (.t 5) .done))))
 (.seq (.reg (tm 6 (.t 3) (tq 7 (.call 352 [(.t 6),(.c (.fn 227 []))]) .done)))
 (.seq (.reg (tm 8 (.t 3) (tq 9 (.call 353 [(.t 8)]) (tm 2 (.t 9) .done))))
 .ret))))
theorem e4l:a1b Tryz.prog Tryz.f307 = some (e4k.erase,[.mov (.t 2)],10):=by kernel_rfl
def b3c (list_1:(List x8)):Option (List x8) :=
    (a3u list_1).bind fun r_2 =>
    (a2d r_2).bind fun r_4 =>
    (a2f r_4).bind fun r_7 =>
    some r_7
theorem c8x (list_1:(List x8)) (r:(List x8)) (hf:b3c list_1 = some r):y9 Tryz.prog 307 .fresh [(.lst 3 (list_1.map l9))] (.lst 3 (r.map l9)):=by
 refine y9.of_awp mixed Tryz.func307 e4l nle ?_;rw [a0f];unfold b3c at hf;unfold e4k;refine (show awp Tryz.prog true 0 _ (ofL [(0,(.lst 3 (list_1.map l9)))]) [] _ from ?_);refine sr<|l7 .nil rfl<|dk<|sr<|?_
 obtain ⟨r_2,er3,hf⟩:=ob hf
 refine l7 (.lst 3 (list_1.map l9)) rfl<|o8 (a3j (v:=(.own 0 0 r_2.length)) (h':=[.row 3 (r_2.map l9)]) (a9v _ _ er3) rfl (.refl _) (by simp only [a2b,a2c,List.length_map,List.nil_append,List.append_nil,List.cons_append];rfl))<|l7 (.own 0 0 r_2.length) rfl<|dk<|sr<|?_
 obtain ⟨r_4,er5,hf⟩:=ob hf
 refine l7 (.own 0 0 r_2.length) rfl ?_;refine a1n (b4b (v:=(.tup [])) (h2:=[.row 3 (r_4.map l9)]) [] [0] (fun _ => rfl) (a8e _ _ er5) rfl (.refl _) (.refl _) rfl rfl) fun hl6 => ?_;refine dk<|sr<|?_
 obtain ⟨r_7,er8,hf⟩:=ob hf
 refine l7 (.own 0 0 r_2.length) rfl ?_;refine o8 (a3e (v:=(.own 1 0 r_7.length)) (h2:=[.dead,.row 3 (r_7.map l9)]) [] [0] (fun _ => rfl) (a8h _ _ er8) rfl (.cons (.of_eq (congrArg (AV.own _ 0) (by have h:=(hl6 0 _ _ _ _ rfl rfl);simpa using h.symm))) .nil) (.refl _) rfl rfl) ?_;refine l7 (.own 1 0 r_7.length) rfl<|dk<|a0d<|?_;obtain rfl:=os hf;exact a1j ⟨trivial,trivial⟩ rfl (by decide) (.of_eq (congrArg (AV.lst _) (tk (enc:=l9) r_7)))

/- impl.datumOf -/
def c232:a0p :=
 (.seq (.reg (tm 2 (.c .nil) (tm 3 (.c (.int .i64 0)) .done)))
 (.seq (.seq (.reg (tm 7 (.t 0) (tq 8 (.len (.t 7)) (tm 9 (.c (.int .i64 0)) .done))))
 (.block 0 (.loop (.seq (.reg (tq 10 (.bin .lss (.t 9) (.t 8)) .done))
 (.seq (.cond (.t 10) .skip
 (.exit 0))
 (.seq (.block 1 (.seq (.reg (tq 11 (.iaddr 3 (.t 7) (.t 9)) (tq 12 (.load 3 true (.t 11)) (tq 5 (.box 3 (.c (.agg [(.int .i64 0),(.int .i64 0),(.str [])]))) (.q ⟨none,none,.store 3 (.t 5) (.t 12)⟩
 .done)))))
 (.block 2 (.seq (.reg (tq 14 (.load 3 true (.t 5)) (tq 15 (.call 135 [(.t 14)]) (tq 16 (.not (.t 15)) (tm 13 (.t 16) .done)))))
 (.cond (.t 13) (.seq (.reg (tm 2 (.c .nil) (tm 3 (.c (.int .i64 1)) .done)))
 .ret)
 (.seq (.reg (tq 18 (.faddr 0 (.t 5)) (tq 19 (.load 1 false (.t 18)) (tm 20 (.t 0) (tq 21 (.iaddr 3 (.t 20) (.c (.int .i64 0))) (tq 22 (.faddr 0 (.t 21)) (tq 23 (.load 1 false (.t 22)) (tq 24 (.bin .neq (.t 19) (.t 23)) (tm 17 (.t 24) .done)))))))))
 (.cond (.t 17) (.seq (.reg (tm 2 (.c .nil) (tm 3 (.c (.int .i64 9)) .done)))
 .ret)
 .skip)))))))
 (.reg (tq 25 (.bin .add (.t 9) (.c (.int .i64 1))) (tm 9 (.t 25) .done)))))))))
 (.cut (.seq (.reg (tm 26 (.t 0) (tq 27 (.call 307 [(.t 26)]) (tm 6 (.t 27) .done))))
 (.seq (.seq (.reg (tm 28 (.t 6) (tq 29 (.len (.t 28)) (tq 30 (.bin .gtr (.t 29) (.c (.int .i64 8))) .done))))
 (.cond (.t 30) (.seq (.reg (tm 2 (.c .nil) (tm 3 (.c (.int .i64 6)) .done)))
 .ret)
 .skip))
 (.seq (.reg (tm 31 (.t 6) (tm 2 (.t 31) (tm 3 (.c (.int .i64 0)) .done))))
 .ret))))))
theorem e4m:a1b Tryz.prog Tryz.f232 = some (c232.erase,[.mov (.t 2),.mov (.t 3)],32):=by kernel_rfl
def a4r (list_1:(List x8)):List x8 → Option (Fl ((List x8) × Int) Unit)
  | [] =>
    some (.go ())
  | x_39 :: xs =>
    (a6t x_39).bind fun r_40 =>
    if (!r_40) then
    some (.ret ([],1))
    else
    (idx list_1 0).bind fun x_43 =>
    if (x_39.Kind != x_43.Kind) then
    some (.ret ([],9))
    else
    a4r list_1 xs 

def a9a (list_1:(List x8)):Option ((List x8) × Int) :=
    (a4r list_1 list_1 ).bind fun q => (match q with
    | .ret r => some r
    | .go _ =>
    (b3c list_1).bind fun r_46 =>
    if (decide ((r_46.length:Int) > 8)) then
    some ([],6)
    else
    some (r_46,0))
theorem c4p (list_1:(List x8)) (r:((List x8) × Int)) (hf:a9a list_1 = some r):y9 Tryz.prog 232 .fresh [(.lst 3 (list_1.map l9))] (.tup [(.lst 3 (r.1.map l9)),(.int .i64 r.2)]):=by
 refine y9.of_awp mixed Tryz.func232 e4m nle ?_;rw [a0f];unfold a9a at hf;unfold c232;refine (show awp Tryz.prog true 0 _ (ofL [(0,(.lst 3 (list_1.map l9)))]) [] _ from ?_);refine sr<|l7 .nil rfl<|l7 (.int .i64 0) rfl<|dk<|o6<|sr<|l7 (.lst 3 (list_1.map l9)) rfl<|a1n (a3d (enc:=l9) rfl) fun hl2 => l7 (.int .i64 0) rfl<|dk<|?_
 obtain ⟨p32,hb1,hf⟩:=ob hf
 refine a4k (X:={q:Unit // p32 = .go q}) (fun q => ([(0,(.lst 3 (list_1.map l9)))],[])) ?_ ?_
 ·refine a1v (X:={q:Nat // a4r list_1 (list_1.drop q)  = some p32}) (fun q => ([(0,(.lst 3 (list_1.map l9))),(7,(.lst 3 (list_1.map l9))),(8,(.int .i64 (list_1.length:Int))),(9,(.int .i64 (q.1:Int)))],[])) (fun q => list_1.length - q.1) ⟨0,hb1⟩ ⟨[],[],_,_,rfl,rfl,⟨.refl _,⟨.refl _,⟨.refl _,⟨.refl _,trivial⟩⟩⟩⟩,(.refl _)⟩ ?_
  rintro ⟨s9_22,hc1⟩
  have hc1:a4r list_1 (list_1.drop s9_22)  = some p32:=hc1
  refine (show awp Tryz.prog true 0 _ (ofL [(0,(.lst 3 (list_1.map l9))),(7,(.lst 3 (list_1.map l9))),(8,(.int .i64 (list_1.length:Int))),(9,(.int .i64 (s9_22:Int)))]) [] _ from ?_)
  rcases a7j list_1 s9_22 with ⟨hie35,hd38⟩ | ⟨hlt33,x_39,hx34,hd38⟩
  ·rw [hd38,a4r.eq_1] at hc1
   have hq37:=dlf hie35
   refine sr<|o7 (.bool (decide ((s9_22:Int) < (list_1.length:Int)))) rfl rfl rfl<|dk<|o6<|a0c rfl hq37<|a4b<|a4a<|a2w<|a3z<|?_;obtain rfl:=os hc1;exact a5z ⟨_,rfl⟩ ⟨[],[],_,_,rfl,rfl,⟨.refl _,trivial⟩,(.refl _)⟩
  ·rw [hd38,a4r.eq_2] at hc1
   have hq37:=dlt hlt33
   refine sr<|o7 (.bool (decide ((s9_22:Int) < (list_1.length:Int)))) rfl rfl rfl<|dk<|o6<|a0b rfl hq37<|a0i<|a0h<|o6<|a3s<|sr<|o8 (a3o (enc:=l9) rfl rfl hx34)<|o7 (l9 x_39) rfl nle rfl<|o8 (a1g (j:=0) (c:=(.agg [(.int .i64 0),(.int .i64 0),(.str [])])) rfl trivial rfl rfl)<|a1i (x9 (v:=(.agg [(.int .i64 x_39.Kind),(.int .i64 x_39.N),(.str x_39.T)])) (y':=(.agg [(.int .i64 x_39.Kind),(.int .i64 x_39.N),(.str x_39.T)])) rfl rfl rfl trivial ⟨rfl,nle⟩ ⟨⟨rfl,trivial⟩,⟨⟨rfl,trivial⟩,⟨⟨rfl,trivial⟩,trivial⟩⟩⟩ rfl)<|dk<|a3s<|sr<|?_
   obtain ⟨r_40,er41,hc1⟩:=ob hc1
   refine o7 (.agg [(.int .i64 x_39.Kind),(.int .i64 x_39.N),(.str x_39.T)]) rfl nle rfl<|o8 (a1f (b1k _ _ er41) rfl (.refl _) rfl)<|o7 (.bool (!r_40)) rfl trivial rfl<|l7 (.bool (!r_40)) rfl<|dk<|?_
   rcases oi hc1 with ⟨c42,hc1⟩ | ⟨c42,hc1⟩
   ·refine a0b rfl c42<|sr<|l7 .nil rfl<|l7 (.int .i64 1) rfl<|dk<|a0d<|?_;obtain rfl:=os hc1;obtain rfl:=os hf;exact a1j ⟨trivial,⟨trivial,trivial⟩⟩ rfl (by decide) (.tup (.cons (.nil _) (.cons (.refl _) .nil)))
   ·refine a0c rfl (bf c42)<|sr<|?_
    obtain ⟨x_43,ex44,hc1⟩:=ob hc1
    refine o7 (.ptr 0 0 0) rfl trivial rfl<|o7 (.int .i64 x_39.Kind) rfl nle rfl<|l7 (.lst 3 (list_1.map l9)) rfl<|o8 (a5l (enc:=l9) rfl rfl (b2x ex44) (b2y ex44))<|o7 (.iptr (l9 x_43) 0) rfl trivial rfl<|o7 (.int .i64 x_43.Kind) rfl nle rfl<|o7 (.bool (x_39.Kind != x_43.Kind)) rfl rfl rfl<|l7 (.bool (x_39.Kind != x_43.Kind)) rfl<|dk<|?_
    rcases oi hc1 with ⟨c45,hc1⟩ | ⟨c45,hc1⟩
    ·refine a0b rfl c45<|sr<|l7 .nil rfl<|l7 (.int .i64 9) rfl<|dk<|a0d<|?_;obtain rfl:=os hc1;obtain rfl:=os hf;exact a1j ⟨trivial,⟨trivial,trivial⟩⟩ rfl (by decide) (.tup (.cons (.nil _) (.cons (.refl _) .nil)))
    ·refine a0c rfl (bf c45)<|a0i<|a3l<|a3l<|a0h<|a0z<|o7 (.int .i64 (w64 ((s9_22:Int) + 1))) rfl rfl rfl<|l7 (.int .i64 (w64 ((s9_22:Int) + 1))) rfl<|a0e<|?_;exact a2p ⟨(s9_22 + 1),hc1⟩ (mul hlt33) ⟨[],[],_,_,rfl,rfl,⟨.refl _,⟨.refl _,⟨.refl _,⟨.of_eq (congrArg (AV.int _) (a3h hlt33 hl2)),trivial⟩⟩⟩⟩,(.refl _)⟩
 ·rintro ⟨_,rfl⟩
  refine sr<|?_
  obtain ⟨r_46,er47,hf⟩:=ob hf
  refine l7 (.lst 3 (list_1.map l9)) rfl<|o8 (a3j (v:=(.own 0 0 r_46.length)) (h':=[.row 3 (r_46.map l9)]) (c8x _ _ er47) rfl (.refl _) (by simp only [a2b,a2c,List.length_map,List.nil_append,List.append_nil,List.cons_append];rfl))<|l7 (.own 0 0 r_46.length) rfl<|dk<|o6<|sr<|l7 (.own 0 0 r_46.length) rfl<|a1n (a6h rfl rfl) fun hl48 => o7 (.bool (decide ((r_46.length:Int) > 8))) rfl rfl rfl<|dk<|?_
  rcases oi hf with ⟨c49,hf⟩ | ⟨c49,hf⟩
  ·refine a0b rfl c49<|sr<|l7 .nil rfl<|l7 (.int .i64 6) rfl<|dk<|a0d<|?_;obtain rfl:=os hf;exact a1j ⟨trivial,⟨trivial,trivial⟩⟩ rfl (by decide) (.tup (.cons (.nil _) (.cons (.refl _) .nil)))
  ·refine a0c rfl (bf c49)<|a0i<|a0h<|sr<|l7 (.own 0 0 r_46.length) rfl<|l7 (.own 0 0 r_46.length) rfl<|l7 (.int .i64 0) rfl<|dk<|a0d<|?_;obtain rfl:=os hf;exact a1j ⟨trivial,⟨trivial,trivial⟩⟩ rfl (by decide) (.tup (.cons (.of_eq (congrArg (AV.lst _) (tk (enc:=l9) r_46))) (.cons (.refl _) .nil)))

/- impl.jsonDatum -/
def e4n:a0p :=
 (.seq (.reg (tq 1 (.box 5 (.t 0)) (tm 2 (.c .nil) (tm 3 (.c (.bool false)) .done))))
 (.seq (.reg (tq 14 (.load 5 true (.t 1)) (tq 15 (.call 231 [(.t 14)]) (tm 13 (.t 15) (tq 16 (.extract 0 (.t 13)) (tq 17 (.extract 1 (.t 13)) (tm 4 (.t 16) (tm 5 (.t 17) .done))))))))
 (.seq (.seq (.reg (tm 18 (.t 5) (tq 19 (.not (.t 18)) .done)))
 (.cond (.t 19) (.reg (tq 20 (.load 5 true (.t 1)) (tq 21 (.bslice 5 [(.t 20)]) (tm 4 (.t 21) .done))))
 .skip))
 (.cut (.seq (.reg (tq 22 (.bslice 3 []) (tm 6 (.t 22) .done)))
 (.seq (.seq (.reg (tm 23 (.t 4) (tq 24 (.len (.t 23)) (tm 25 (.c (.int .i64 0)) .done))))
 (.block 0 (.loop (.seq (.reg (tq 26 (.bin .lss (.t 25) (.t 24)) .done))
 (.seq (.cond (.t 26) .skip
 (.exit 0))
 (.seq (.block 1 (.seq (.reg (tq 27 (.iaddr 5 (.t 23) (.t 25)) (tq 28 (.load 5 true (.t 27)) (tq 8 (.box 5 (.c (.agg [(.int .i64 0),(.int .i64 0),(.str []),.nil,.nil]))) (.q ⟨none,none,.store 5 (.t 8) (.t 28)⟩
 .done)))))
 (.seq (.reg (tq 30 (.load 5 true (.t 8)) (tq 31 (.call 137 [(.t 30)]) (tm 29 (.t 31) (tq 32 (.extract 0 (.t 29)) (tq 33 (.extract 1 (.t 29)) (tq 9 (.box 3 (.c (.agg [(.int .i64 0),(.int .i64 0),(.str [])]))) (.q ⟨none,none,.store 3 (.t 9) (.t 32)⟩
 (tm 10 (.t 33) .done)))))))))
 (.seq (.seq (.reg (tm 34 (.t 10) (tq 35 (.not (.t 34)) .done)))
 (.cond (.t 35) (.seq (.reg (tm 2 (.c .nil) (tm 3 (.c (.bool false)) .done)))
 .ret)
 .skip))
 (.reg (tm 36 (.t 6) (tq 37 (.load 3 true (.t 9)) (tq 38 (.bslice 3 [(.t 37)]) (tq 39 (.append 3 32 (.t 36) (.t 38)) (tm 6 (.t 39) .done))))))))))
 (.reg (tq 40 (.bin .add (.t 25) (.c (.int .i64 1))) (tm 25 (.t 40) .done)))))))))
 (.cut (.seq (.reg (tm 42 (.t 6) (tq 43 (.call 232 [(.t 42)]) (tm 41 (.t 43) (tq 44 (.extract 0 (.t 41)) (tq 45 (.extract 1 (.t 41)) (tm 11 (.t 44) (tm 12 (.t 45) .done))))))))
 (.seq (.reg (tm 46 (.t 11) (tm 47 (.t 12) (tq 48 (.bin .eql (.t 47) (.c (.int .i64 0))) (tm 2 (.t 46) (tm 3 (.t 48) .done))))))
 .ret)))))))))
theorem e4o:a1b Tryz.prog Tryz.f133 = some (e4n.erase,[.mov (.t 2),.mov (.t 3)],49):=by kernel_rfl
def a3v :List y7 → (List x8) → Option (Fl ((List x8) × Bool) (List x8))
  | [],list_26 =>
    some (.go list_26)
  | x_42 :: xs,list_26 =>
    (a5s x_42).bind fun r_43 =>
    if (!r_43.2) then
    some (.ret ([],false))
    else
    if (list_26 ++ [r_43.1]).length ≤ 2 ^ 30 then
    a3v xs  (list_26 ++ [r_43.1])
    else none

def a7m (j_1:y7):Option ((List x8) × Bool) :=
    (a5d j_1).bind fun r_2 =>
    ((if (!r_2.2) then
    some [j_1]
    else
    some r_2.1:Option (List y7))).bind fun items_5 =>
    (a3v items_5 []).bind fun q => (match q with
    | .ret r => some r
    | .go list_34 =>
    (a9a list_34).bind fun r_47 =>
    some (r_47.1,(r_47.2 == 0)))
theorem c1c (j_1:y7) (r:((List x8) × Bool)) (hf:a7m j_1 = some r):y9 Tryz.prog 133 .fresh [(o5 j_1)] (.tup [(.lst 3 (r.1.map l9)),(.bool r.2)]):=by
 refine y9.of_awpF mixed Tryz.func133 e4o nle ?_;rw [a0f];rw [y8 j_1];unfold a7m at hf;unfold e4n;refine (show awp Tryz.prog false 0 _ (ofL [(0,(.agg [(.int .i64 j_1.Kind),(.int .i64 j_1.N),(.str j_1.T),(.lst 1 (j_1.Keys.map AV.str)),(.lst 5 (j_1.Items.map o5))]))]) [] _ from ?_);refine sr<|o8 (a1g (j:=0) (c:=(.agg [(.int .i64 j_1.Kind),(.int .i64 j_1.N),(.str j_1.T),(.lst 1 (j_1.Keys.map AV.str)),(.lst 5 (j_1.Items.map o5))])) rfl trivial rfl rfl)<|l7 .nil rfl<|l7 (.bool false) rfl<|dk<|sr<|?_
 obtain ⟨r_2,er3,hf⟩:=ob hf
 refine o7 (.agg [(.int .i64 j_1.Kind),(.int .i64 j_1.N),(.str j_1.T),(.lst 1 (j_1.Keys.map AV.str)),(.lst 5 (j_1.Items.map o5))]) rfl nle rfl<|o8 (c2x rfl (b7e _ _ er3) rfl (.cons (.of_eq (y8 j_1).symm) .nil) rfl rfl)<|l7 (.tup [(.lst 5 (r_2.1.map o5)),(.bool r_2.2)]) rfl<|o7 (.lst 5 (r_2.1.map o5)) rfl nle rfl<|o7 (.bool r_2.2) rfl nle rfl<|l7 (.lst 5 (r_2.1.map o5)) rfl<|l7 (.bool r_2.2) rfl<|dk<|o6<|?_
 obtain ⟨items_5,hb1,hf⟩:=ob hf
 refine a2v ([(4,(.lst 5 (items_5.map o5)))],[]) ?_ ?_
 ·refine sr<|l7 (.bool r_2.2) rfl<|o7 (.bool (!r_2.2)) rfl trivial rfl<|dk<|?_
  rcases oi hb1 with ⟨c7,hb1⟩ | ⟨c7,hb1⟩
  ·refine a0b rfl c7<|a0z<|o7 (.agg [(.int .i64 j_1.Kind),(.int .i64 j_1.N),(.str j_1.T),(.lst 1 (j_1.Keys.map AV.str)),(.lst 5 (j_1.Items.map o5))]) rfl nle rfl<|?_;refine o8 (a1c (j:=1) (as':=[(o5 j_1)]) rfl (fun _ => by decide) ⟨rfl,trivial⟩ (.cons (.of_eq (y8 j_1).symm) .nil) rfl rfl rfl) ?_;refine l7 (.own 1 0 1) rfl<|a0e<|?_;obtain rfl:=os hb1;exact ⟨[.frz 4],[],_,_,rfl,rfl,⟨.of_eq (congrArg (AV.lst _) (tko [j_1])),trivial⟩,(.refl _)⟩
  ·refine a0c rfl (bf c7)<|a0i<|?_;obtain rfl:=os hb1;exact ⟨[],[],_,_,rfl,rfl,⟨.refl _,trivial⟩,(.refl _)⟩
 ·refine sr<|?_;refine o8 (a1c (j:=0) (as':=[]) rfl (fun _ => by decide) trivial (.refl _) rfl rfl rfl) ?_;refine l7 (.own 0 0 0) rfl<|dk<|o6<|sr<|l7 (.lst 5 (items_5.map o5)) rfl<|a1n (a3d (enc:=o5) rfl) fun hl8 => l7 (.int .i64 0) rfl<|dk<|?_
  obtain ⟨p35,hb1,hf⟩:=ob hf
  refine a4k (X:={q:(List x8) // p35 = .go q}) (fun q => ([(6,(.own 0 0 q.1.length))],[.row 3 (q.1.map l9)])) ?_ ?_
  ·refine a1v (X:={q:(Nat × (List x8)) // a3v (items_5.drop q.1) q.2 = some p35}) (fun q => ([(6,(.own 0 0 q.1.2.length)),(23,(.lst 5 (items_5.map o5))),(24,(.int .i64 (items_5.length:Int))),(25,(.int .i64 (q.1.1:Int)))],[.row 3 (q.1.2.map l9)])) (fun q => items_5.length - q.1.1) ⟨(0,[]),hb1⟩ ⟨[],[0],_,_,rfl,rfl,⟨.of_eq (congrArg (AV.own _ 0) (by simp)),⟨.refl _,⟨.refl _,⟨.refl _,trivial⟩⟩⟩⟩,(.refl _)⟩ ?_
   rintro ⟨⟨s25_25,list_26⟩,hc1⟩
   have hc1:a3v (items_5.drop s25_25) list_26 = some p35:=hc1
   refine (show awp Tryz.prog false 0 _ (ofL [(6,(.own 0 0 list_26.length)),(23,(.lst 5 (items_5.map o5))),(24,(.int .i64 (items_5.length:Int))),(25,(.int .i64 (s25_25:Int)))]) [.row 3 (list_26.map l9)] _ from ?_)
   rcases a7j items_5 s25_25 with ⟨hie38,hd41⟩ | ⟨hlt36,x_42,hx37,hd41⟩
   ·rw [hd41,a3v.eq_1] at hc1
    have hq40:=dlf hie38
    refine sr<|o7 (.bool (decide ((s25_25:Int) < (items_5.length:Int)))) rfl rfl rfl<|dk<|o6<|a0c rfl hq40<|a4b<|a4a<|a2w<|a3z<|?_;obtain rfl:=os hc1;exact a5z ⟨_,rfl⟩ ⟨[],[0],_,_,rfl,rfl,⟨.refl _,trivial⟩,(.refl _)⟩
   ·rw [hd41,a3v.eq_2] at hc1
    have hq40:=dlt hlt36
    refine sr<|o7 (.bool (decide ((s25_25:Int) < (items_5.length:Int)))) rfl rfl rfl<|dk<|o6<|a0b rfl hq40<|a0i<|a0h<|o6<|a3s<|sr<|o8 (a3o (enc:=o5) rfl rfl hx37)<|o8 (a9d (v:=(.agg [(.int .i64 x_42.Kind),(.int .i64 x_42.N),(.str x_42.T),(.lst 1 (x_42.Keys.map AV.str)),(.lst 5 (x_42.Items.map o5))])) rfl (y8 _) nle rfl)<|o8 (a1g (j:=1) (c:=(.agg [(.int .i64 0),(.int .i64 0),(.str []),.nil,.nil])) rfl trivial rfl rfl)<|a1i (x9 (v:=(.agg [(.int .i64 x_42.Kind),(.int .i64 x_42.N),(.str x_42.T),(.lst 1 (x_42.Keys.map AV.str)),(.lst 5 (x_42.Items.map o5))])) (y':=(.agg [(.int .i64 x_42.Kind),(.int .i64 x_42.N),(.str x_42.T),(.lst 1 (x_42.Keys.map AV.str)),(.lst 5 (x_42.Items.map o5))])) rfl rfl rfl trivial ⟨rfl,nle⟩ ⟨⟨rfl,trivial⟩,⟨⟨rfl,trivial⟩,⟨⟨rfl,trivial⟩,⟨⟨rfl,trivial⟩,⟨⟨rfl,trivial⟩,trivial⟩⟩⟩⟩⟩ rfl)<|?_
    refine dk<|sr<|?_
    obtain ⟨r_43,er44,hc1⟩:=ob hc1
    refine o7 (.agg [(.int .i64 x_42.Kind),(.int .i64 x_42.N),(.str x_42.T),(.lst 1 (x_42.Keys.map AV.str)),(.lst 5 (x_42.Items.map o5))]) rfl nle rfl<|o8 (a1f (b5h _ _ er44) rfl (.cons (.of_eq (y8 x_42).symm) .nil) rfl)<|l7 (.tup [(l9 r_43.1),(.bool r_43.2)]) rfl<|o7 (l9 r_43.1) rfl nle rfl<|o7 (.bool r_43.2) rfl nle rfl<|o8 (a1g (j:=2) (c:=(.agg [(.int .i64 0),(.int .i64 0),(.str [])])) rfl trivial rfl rfl)<|a1i (x9 (v:=(.agg [(.int .i64 r_43.1.Kind),(.int .i64 r_43.1.N),(.str r_43.1.T)])) (y':=(.agg [(.int .i64 r_43.1.Kind),(.int .i64 r_43.1.N),(.str r_43.1.T)])) rfl rfl rfl trivial ⟨rfl,nle⟩ ⟨⟨rfl,trivial⟩,⟨⟨rfl,trivial⟩,⟨⟨rfl,trivial⟩,trivial⟩⟩⟩ rfl)<|?_
    refine l7 (.bool r_43.2) rfl<|dk<|o6<|sr<|l7 (.bool r_43.2) rfl<|o7 (.bool (!r_43.2)) rfl trivial rfl<|dk<|?_
    rcases oi hc1 with ⟨c45,hc1⟩ | ⟨c45,hc1⟩
    ·refine a0b rfl c45<|sr<|l7 .nil rfl<|l7 (.bool false) rfl<|dk<|a0d<|?_;obtain rfl:=os hc1;obtain rfl:=os hf;exact d0x ⟨trivial,⟨trivial,trivial⟩⟩ rfl (by decide) trivial (.tup (.cons (.nil _) (.cons (.refl _) .nil)))
    ·refine a0c rfl (bf c45)<|a0i<|a0h<|a0z<|?_
     obtain ⟨g46,hc1⟩:=og hc1
     refine l7 (.own 0 0 list_26.length) rfl<|o7 (.agg [(.int .i64 r_43.1.Kind),(.int .i64 r_43.1.N),(.str r_43.1.T)]) rfl nle rfl<|?_;refine o8 (a1c (j:=3) (as':=[(l9 r_43.1)]) rfl (fun _ => by decide) ⟨rfl,trivial⟩ (.refl _) rfl rfl rfl) ?_
     refine o8 (d5h (j:=4) (L:=((list_26 ++ [r_43.1]).map l9)) (len:=(list_26 ++ [r_43.1]).length) rfl rfl (c5s (enc:=l9) list_26 [r_43.1] _ (by rfl)) (by simp <;> omega) g46 rfl rfl) ?_
     refine l7 (.own 4 0 ((list_26 ++ [r_43.1]).length)) rfl<|a0e<|a3l<|a0h<|a0z<|o7 (.int .i64 (w64 ((s25_25:Int) + 1))) rfl rfl rfl<|l7 (.int .i64 (w64 ((s25_25:Int) + 1))) rfl<|a0e<|?_;exact a2p ⟨((s25_25 + 1),list_26 ++ [r_43.1]),hc1⟩ (mul hlt36) ⟨[],[4],_,_,rfl,rfl,⟨.refl _,⟨.refl _,⟨.refl _,⟨.of_eq (congrArg (AV.int _) (a3h hlt36 hl8)),trivial⟩⟩⟩⟩,(.refl _)⟩
  ·rintro ⟨list_34,rfl⟩
   refine sr<|?_
   obtain ⟨r_47,er48,hf⟩:=ob hf
   refine l7 (.own 0 0 list_34.length) rfl<|o8 (a3j (v:=(.tup [(.own 1 0 r_47.1.length),(.int .i64 r_47.2)])) (h':=[.row 3 (r_47.1.map l9)]) (c4p _ _ er48) rfl (.cons (.of_eq (congrArg (AV.lst _) (tko list_34))) .nil) (by simp only [a2b,a2c,List.length_map,List.nil_append,List.append_nil,List.cons_append];rfl))<|l7 (.tup [(.own 1 0 r_47.1.length),(.int .i64 r_47.2)]) rfl<|o7 (.own 1 0 r_47.1.length) rfl nle rfl<|o7 (.int .i64 r_47.2) rfl nle rfl<|l7 (.own 1 0 r_47.1.length) rfl<|l7 (.int .i64 r_47.2) rfl<|dk<|sr<|l7 (.own 1 0 r_47.1.length) rfl<|l7 (.int .i64 r_47.2) rfl<|o7 (.bool (r_47.2 == 0)) rfl rfl rfl<|?_
   refine l7 (.own 1 0 r_47.1.length) rfl<|l7 (.bool (r_47.2 == 0)) rfl<|dk<|a0d<|?_;obtain rfl:=os hf;exact d0x ⟨trivial,⟨trivial,trivial⟩⟩ rfl (by decide) ⟨⟨_,_,rfl,flm (fun _ => rfl) _⟩,trivial⟩ (.tup (.cons (.of_eq (congrArg (AV.lst _) (tk (enc:=l9) r_47.1))) (.cons (.refl _) .nil)))

/- impl.JsonDatum -/
def c51:a0p :=
 (.seq (.reg (tq 1 (.box 5 (.t 0)) (tm 2 (.c .nil) (tm 3 (.c (.int .i64 0)) .done))))
 (.seq (.seq (.reg (tq 6 (.load 5 true (.t 1)) (tq 7 (.call 124 [(.t 6)]) (tq 8 (.not (.t 7)) .done))))
 (.cond (.t 8) (.seq (.reg (tm 2 (.c .nil) (tm 3 (.c (.int .i64 1)) .done)))
 .ret)
 .skip))
 (.seq (.reg (tq 10 (.load 5 true (.t 1)) (tq 11 (.call 133 [(.t 10)]) (tm 9 (.t 11) (tq 12 (.extract 0 (.t 9)) (tq 13 (.extract 1 (.t 9)) (tm 4 (.t 12) (tm 5 (.t 13) .done))))))))
 (.seq (.seq (.reg (tm 14 (.t 5) (tq 15 (.not (.t 14)) .done)))
 (.cond (.t 15) (.seq (.reg (tm 2 (.c .nil) (tm 3 (.c (.int .i64 3)) .done)))
 .ret)
 .skip))
 (.seq (.reg (tm 16 (.t 4) (tm 2 (.t 16) (tm 3 (.c (.int .i64 0)) .done))))
 .ret)))))
theorem e6r:a1b Tryz.prog Tryz.f51 = some (c51.erase,[.mov (.t 2),.mov (.t 3)],17):=by kernel_rfl
def a7n (j_1:y7):Option ((List x8) × Int) :=
    (a8s j_1).bind fun r_2 =>
    if (!r_2) then
    some ([],1)
    else
    (a7m j_1).bind fun r_5 =>
    if (!r_5.2) then
    some ([],3)
    else
    some (r_5.1,0)
theorem b4g (j_1:y7) (r:((List x8) × Int)) (hf:a7n j_1 = some r):y9 Tryz.prog 51 .fresh [(o5 j_1)] (.tup [(.lst 3 (r.1.map l9)),(.int .i64 r.2)]):=by
 refine y9.of_awp mixed Tryz.func51 e6r nle ?_;rw [a0f];rw [y8 j_1];unfold a7n at hf;unfold c51;refine (show awp Tryz.prog true 0 _ (ofL [(0,(.agg [(.int .i64 j_1.Kind),(.int .i64 j_1.N),(.str j_1.T),(.lst 1 (j_1.Keys.map AV.str)),(.lst 5 (j_1.Items.map o5))]))]) [] _ from ?_);refine sr<|o8 (a1g (j:=0) (c:=(.agg [(.int .i64 j_1.Kind),(.int .i64 j_1.N),(.str j_1.T),(.lst 1 (j_1.Keys.map AV.str)),(.lst 5 (j_1.Items.map o5))])) rfl trivial rfl rfl)<|l7 .nil rfl<|l7 (.int .i64 0) rfl<|dk<|o6<|sr<|?_
 obtain ⟨r_2,er3,hf⟩:=ob hf
 refine o7 (.agg [(.int .i64 j_1.Kind),(.int .i64 j_1.N),(.str j_1.T),(.lst 1 (j_1.Keys.map AV.str)),(.lst 5 (j_1.Items.map o5))]) rfl nle rfl<|o8 (a1f (b3x _ _ er3) rfl (.cons (.of_eq (y8 j_1).symm) .nil) rfl)<|o7 (.bool (!r_2)) rfl trivial rfl<|dk<|?_
 rcases oi hf with ⟨c4,hf⟩ | ⟨c4,hf⟩
 ·refine a0b rfl c4<|sr<|l7 .nil rfl<|l7 (.int .i64 1) rfl<|dk<|a0d<|?_;obtain rfl:=os hf;exact a1j ⟨trivial,⟨trivial,trivial⟩⟩ rfl (by decide) (.tup (.cons (.nil _) (.cons (.refl _) .nil)))
 ·refine a0c rfl (bf c4)<|a0i<|a0h<|sr<|?_
  obtain ⟨r_5,er6,hf⟩:=ob hf
  refine o7 (.agg [(.int .i64 j_1.Kind),(.int .i64 j_1.N),(.str j_1.T),(.lst 1 (j_1.Keys.map AV.str)),(.lst 5 (j_1.Items.map o5))]) rfl nle rfl<|o8 (a3j (v:=(.tup [(.own 1 0 r_5.1.length),(.bool r_5.2)])) (h':=[.row 3 (r_5.1.map l9)]) (c1c _ _ er6) rfl (.cons (.of_eq (y8 j_1).symm) .nil) (by simp only [a2b,a2c,List.length_map,List.nil_append,List.append_nil,List.cons_append];rfl))<|l7 (.tup [(.own 1 0 r_5.1.length),(.bool r_5.2)]) rfl<|o7 (.own 1 0 r_5.1.length) rfl nle rfl<|o7 (.bool r_5.2) rfl nle rfl<|l7 (.own 1 0 r_5.1.length) rfl<|l7 (.bool r_5.2) rfl<|dk<|o6<|sr<|l7 (.bool r_5.2) rfl<|?_
  refine o7 (.bool (!r_5.2)) rfl trivial rfl<|dk<|?_
  rcases oi hf with ⟨c7,hf⟩ | ⟨c7,hf⟩
  ·refine a0b rfl c7<|sr<|l7 .nil rfl<|l7 (.int .i64 3) rfl<|dk<|a0d<|?_;obtain rfl:=os hf;exact a1j ⟨trivial,⟨trivial,trivial⟩⟩ rfl (by decide) (.tup (.cons (.nil _) (.cons (.refl _) .nil)))
  ·refine a0c rfl (bf c7)<|a0i<|a0h<|sr<|l7 (.own 1 0 r_5.1.length) rfl<|l7 (.own 1 0 r_5.1.length) rfl<|l7 (.int .i64 0) rfl<|dk<|a0d<|?_;obtain rfl:=os hf;exact a1j ⟨trivial,⟨trivial,trivial⟩⟩ rfl (by decide) (.tup (.cons (.of_eq (congrArg (AV.lst _) (tk (enc:=l9) r_5.1))) (.cons (.refl _) .nil)))

/- laws.sameTexts -/
def e4p:a0p :=
 (.seq (.reg (tm 4 (.c (.bool false)) .done))
 (.seq (.seq (.reg (tm 6 (.t 0) (tq 7 (.len (.t 6)) (tm 8 (.t 1) (tq 9 (.len (.t 8)) (tq 10 (.bin .neq (.t 7) (.t 9)) .done))))))
 (.cond (.t 10) (.seq (.reg (tm 4 (.c (.bool false)) .done))
 .ret)
 .skip))
 (.seq (.seq (.reg (tm 5 (.c (.int .i64 0)) .done))
 (.block 0 (.loop (.seq (.seq (.reg (tm 11 (.t 5) (tm 12 (.t 0) (tq 13 (.len (.t 12)) (tq 14 (.bin .lss (.t 11) (.t 13)) .done)))))
 (.cond (.t 14) .skip
 (.exit 0)))
 (.seq (.block 1 (.seq (.reg (tm 17 (.t 0) (tm 18 (.t 5) (tq 19 (.iaddr 1 (.t 17) (.t 18)) (tq 20 (.load 1 false (.t 19)) (tm 21 (.t 1) (tm 22 (.t 5) (tq 23 (.iaddr 1 (.t 21) (.t 22)) (tq 24 (.load 1 false (.t 23)) (tq 25 (.bin .neq (.t 20) (.t 24)) .done))))))))))
 (.cond (.t 25) (.seq (.reg (tm 4 (.c (.bool false)) .done))
 .ret)
 .skip)))
 (.reg (tm 15 (.t 5) (tq 16 (.bin .add (.t 15) (.c (.int .i64 1))) (tm 5 (.t 16) .done)))))))))
 (.cut (.seq (.reg (tm 4 (.c (.bool true)) .done))
 .ret)))))
theorem e4q:a1b Tryz.prog Tryz.f134 = some (e4p.erase,[.mov (.t 4)],26):=by kernel_rfl
def a3w (b_2:(List Str)):List Str → Nat → Option (Fl Bool Unit)
  | [],i_21 =>
    some (.go ())
  | x_37 :: xs,i_21 =>
    (idx b_2 (i_21:Int)).bind fun x_40 =>
    if (!(x_37 == x_40)) then
    some (.ret false)
    else
    a3w b_2 xs (i_21 + 1)

def a8u (a_1:(List Str)) (b_2:(List Str)):Option Bool :=
    if ((a_1.length:Int) != (b_2.length:Int)) then
    some false
    else
    (a3w b_2 a_1 0).bind fun q => (match q with
    | .ret r => some r
    | .go _ =>
    some true)
theorem c1d (a_1:(List Str)) (b_2:(List Str)) (r:Bool) (hf:a8u a_1 b_2 = some r):y9 Tryz.prog 134 .flat [(.lst 1 (a_1.map AV.str)),(.lst 1 (b_2.map AV.str))] (.bool r):=by
 refine y9.of_awp mixed Tryz.func134 e4q nle ?_;rw [a0f];unfold a8u at hf;unfold e4p;refine (show awp Tryz.prog false 0 _ (ofL [(0,(.lst 1 (a_1.map AV.str))),(1,(.lst 1 (b_2.map AV.str)))]) [] _ from ?_);refine sr<|l7 (.bool false) rfl<|dk<|o6<|sr<|l7 (.lst 1 (a_1.map AV.str)) rfl<|a1n (a3d (enc:=AV.str) rfl) fun hl3 => l7 (.lst 1 (b_2.map AV.str)) rfl<|a1n (a3d (enc:=AV.str) rfl) fun hl4 => o7 (.bool ((a_1.length:Int) != (b_2.length:Int))) rfl rfl rfl<|dk<|?_
 rcases oi hf with ⟨c5,hf⟩ | ⟨c5,hf⟩
 ·refine a0b rfl c5<|sr<|l7 (.bool false) rfl<|dk<|a0d<|?_;obtain rfl:=os hf;exact a0m ⟨trivial,trivial⟩ rfl (.refl _)
 ·refine a0c rfl (bf c5)<|a0i<|a0h<|o6<|sr<|l7 (.int .i64 0) rfl<|dk<|?_
  obtain ⟨p30,hb1,hf⟩:=ob hf
  refine a4k (X:={q:Unit // p30 = .go q}) (fun q => ([],[])) ?_ ?_
  ·refine a1v (X:={q:Nat // a3w b_2 (a_1.drop q) q = some p30}) (fun q => ([(0,(.lst 1 (a_1.map AV.str))),(1,(.lst 1 (b_2.map AV.str))),(5,(.int .i64 (q.1:Int)))],[])) (fun q => a_1.length - q.1) ⟨0,hb1⟩ ⟨[],[],_,_,rfl,rfl,⟨.refl _,⟨.refl _,⟨.refl _,trivial⟩⟩⟩,(.refl _)⟩ ?_
   rintro ⟨i_21,hc1⟩
   have hc1:a3w b_2 (a_1.drop i_21) i_21 = some p30:=hc1
   refine (show awp Tryz.prog false 0 _ (ofL [(0,(.lst 1 (a_1.map AV.str))),(1,(.lst 1 (b_2.map AV.str))),(5,(.int .i64 (i_21:Int)))]) [] _ from ?_)
   rcases a7j a_1 i_21 with ⟨hie33,hd36⟩ | ⟨hlt31,x_37,hx32,hd36⟩
   ·rw [hd36,a3w.eq_1] at hc1
    have hq35:=dlf hie33
    refine o6<|sr<|l7 (.int .i64 (i_21:Int)) rfl<|l7 (.lst 1 (a_1.map AV.str)) rfl<|a1n (a3d (enc:=AV.str) rfl) fun hl38 => o7 (.bool (decide ((i_21:Int) < (a_1.length:Int)))) rfl rfl rfl<|dk<|a0c rfl hq35<|a4b<|a4a<|a2w<|a3z<|?_;obtain rfl:=os hc1;exact a5z ⟨_,rfl⟩ ⟨[],[],_,_,rfl,rfl,trivial,(.refl _)⟩
   ·rw [hd36,a3w.eq_2] at hc1
    have hq35:=dlt hlt31
    refine o6<|sr<|l7 (.int .i64 (i_21:Int)) rfl<|l7 (.lst 1 (a_1.map AV.str)) rfl<|a1n (a3d (enc:=AV.str) rfl) fun hl39 => o7 (.bool (decide ((i_21:Int) < (a_1.length:Int)))) rfl rfl rfl<|dk<|a0b rfl hq35<|a0i<|a0h<|o6<|a3s<|sr<|?_
    obtain ⟨x_40,ex41,hc1⟩:=ob hc1
    refine l7 (.lst 1 (a_1.map AV.str)) rfl<|l7 (.int .i64 (i_21:Int)) rfl<|o8 (a3o (enc:=AV.str) rfl rfl hx32)<|o7 (.str x_37) rfl ⟨rfl,rfl⟩ rfl<|l7 (.lst 1 (b_2.map AV.str)) rfl<|l7 (.int .i64 (i_21:Int)) rfl<|o8 (a5l (enc:=AV.str) rfl rfl (b2x ex41) (b2y ex41))<|o7 (.str x_40) rfl ⟨rfl,rfl⟩ rfl<|o7 (.bool (!(x_37 == x_40))) rfl trivial rfl<|dk<|?_
    rcases oi hc1 with ⟨c42,hc1⟩ | ⟨c42,hc1⟩
    ·refine a0b rfl c42<|sr<|l7 (.bool false) rfl<|dk<|a0d<|?_;obtain rfl:=os hc1;obtain rfl:=os hf;exact a0m ⟨trivial,trivial⟩ rfl (.refl _)
    ·refine a0c rfl (bf c42)<|a0i<|a3l<|a0h<|a0z<|l7 (.int .i64 (i_21:Int)) rfl<|o7 (.int .i64 (w64 ((i_21:Int) + 1))) rfl rfl rfl<|l7 (.int .i64 (w64 ((i_21:Int) + 1))) rfl<|a0e<|?_;exact a2p ⟨(i_21 + 1),hc1⟩ (mul hlt31) ⟨[],[],_,_,rfl,rfl,⟨.refl _,⟨.refl _,⟨.of_eq (congrArg (AV.int _) (a3h hlt31 hl39)),trivial⟩⟩⟩,(.refl _)⟩
  ·rintro ⟨_,rfl⟩
   refine sr<|l7 (.bool true) rfl<|dk<|a0d<|?_;obtain rfl:=os hf;exact a0m ⟨trivial,trivial⟩ rfl (.refl _)

/- laws.sameJson -/
def c52:a0p :=
 (.seq (.reg (tq 2 (.box 5 (.t 0)) (tq 3 (.box 5 (.t 1)) (tm 4 (.c (.bool false)) .done))))
 (.seq (.seq (.reg (tq 6 (.faddr 0 (.t 2)) (tq 7 (.load 1 false (.t 6)) (tq 8 (.faddr 0 (.t 3)) (tq 9 (.load 1 false (.t 8)) (tq 10 (.bin .neq (.t 7) (.t 9)) (tm 11 (.t 10) (tg 12 11 false (.faddr 1 (.t 2)) (tg 13 11 false (.load 1 false (.t 12)) (tg 14 11 false (.faddr 1 (.t 3)) (tg 15 11 false (.load 1 false (.t 14)) (tg 16 11 false (.bin .neq (.t 13) (.t 15)) (tq 17 (.pick (.t 11) (.c (.bool true)) (.t 16)) (tm 18 (.t 17) (tg 19 18 false (.faddr 2 (.t 2)) (tg 20 18 false (.load 1 false (.t 19)) (tg 21 18 false (.faddr 2 (.t 3)) (tg 22 18 false (.load 1 false (.t 21)) (tg 23 18 false (.bin .neq (.t 20) (.t 22)) (tq 24 (.pick (.t 18) (.c (.bool true)) (.t 23)) (tm 25 (.t 24) (tg 26 25 false (.faddr 3 (.t 2)) (tg 27 25 false (.load 1 false (.t 26)) (tg 28 25 false (.faddr 3 (.t 3)) (tg 29 25 false (.load 1 false (.t 28)) (tg 30 25 false (.call 134 [(.t 27),(.t 29)]) (tg 31 25 false (.not (.t 30)) (tq 32 (.pick (.t 25) (.c (.bool true)) (.t 31)) (tm 33 (.t 32) (tg 34 33 false (.faddr 4 (.t 2)) (tg 35 33 false (.load 1 false (.t 34)) (tg 36 33 false (.len (.t 35)) (tg 37 33 false (.faddr 4 (.t 3)) (tg 38 33 false (.load 1 false (.t 37)) (tg 39 33 false (.len (.t 38)) (tg 40 33 false (.bin .neq (.t 36) (.t 39)) (tq 41 (.pick (.t 33) (.c (.bool true)) (.t 40)) .done)))))))))))))))))))))))))))))))))))))
 (.cut (.cond (.t 41) (.seq (.reg (tm 4 (.c (.bool false)) .done))
 .ret)
 .skip)))
 (.seq (.seq (.reg (tm 5 (.c (.int .i64 0)) .done))
 (.block 0 (.loop (.seq (.seq (.reg (tm 42 (.t 5) (tq 43 (.faddr 4 (.t 2)) (tq 44 (.load 1 false (.t 43)) (tq 45 (.len (.t 44)) (tq 46 (.bin .lss (.t 42) (.t 45)) .done))))))
 (.cond (.t 46) .skip
 (.exit 0)))
 (.seq (.block 1 (.seq (.reg (tq 49 (.faddr 4 (.t 2)) (tq 50 (.load 1 false (.t 49)) (tm 51 (.t 5) (tq 52 (.iaddr 5 (.t 50) (.t 51)) (tq 53 (.load 5 true (.t 52)) (tq 54 (.faddr 4 (.t 3)) (tq 55 (.load 1 false (.t 54)) (tm 56 (.t 5) (tq 57 (.iaddr 5 (.t 55) (.t 56)) (tq 58 (.load 5 true (.t 57)) (.l ⟨(some 59),none,.call 52 [(.t 53),(.t 58)]⟩ []
 (tq 60 (.not (.t 59)) .done) .non))))))))))))
 (.cond (.t 60) (.seq (.reg (tm 4 (.c (.bool false)) .done))
 .ret)
 .skip)))
 (.reg (tm 47 (.t 5) (tq 48 (.bin .add (.t 47) (.c (.int .i64 1))) (tm 5 (.t 48) .done)))))))))
 (.cut (.seq (.reg (tm 4 (.c (.bool true)) .done))
 .ret)))))
theorem e6s:a1b Tryz.prog Tryz.f52 = some (c52.erase,[.mov (.t 4)],61):=by kernel_rfl
def a3m (b_2:y7) (rec:(y7 → y7 → Option Bool)):List y7 → Nat → Option (Fl Bool Unit)
  | [],i_35 =>
    some (.go ())
  | x_53 :: xs,i_35 =>
    (idx b_2.Items (i_35:Int)).bind fun x_56 =>
    (rec x_53 x_56).bind fun r_58 =>
    if (!r_58) then
    some (.ret false)
    else
    a3m b_2 rec xs (i_35 + 1)

def a9m (rec:(y7 → y7 → Option Bool)) (a_1:y7) (b_2:y7):Option Bool :=
    ((if (bif (bif (a_1.Kind != b_2.Kind) then true else (a_1.N != b_2.N)) then true else (!(a_1.T == b_2.T))) then
    some true
    else
    (a8u a_1.Keys b_2.Keys).bind fun r_11 =>
    some (bif (!r_11) then true else ((a_1.Items.length:Int) != (b_2.Items.length:Int))):Option Bool)).bind fun s41_8 =>
    if s41_8 then
    some false
    else
    (a3m b_2 rec a_1.Items 0).bind fun q => (match q with
    | .ret r => some r
    | .go _ =>
    some true)
theorem b9l (rec:(y7 → y7 → Option Bool)) (hrec:∀ a0 a1 r,rec a0 a1 = some r → y9 Tryz.prog 52 .flat [(o5 a0),(o5 a1)] (.bool r)) (a_1:y7) (b_2:y7) (r:Bool) (hf:a9m rec a_1 b_2 = some r):y9 Tryz.prog 52 .flat [(o5 a_1),(o5 b_2)] (.bool r):=by
 refine y9.of_awp mixed Tryz.func52 e6s nle ?_;rw [a0f];rw [y8 a_1,y8 b_2];unfold a9m at hf;unfold c52;refine (show awp Tryz.prog false 0 _ (ofL [(0,(.agg [(.int .i64 a_1.Kind),(.int .i64 a_1.N),(.str a_1.T),(.lst 1 (a_1.Keys.map AV.str)),(.lst 5 (a_1.Items.map o5))])),(1,(.agg [(.int .i64 b_2.Kind),(.int .i64 b_2.N),(.str b_2.T),(.lst 1 (b_2.Keys.map AV.str)),(.lst 5 (b_2.Items.map o5))]))]) [] _ from ?_);refine sr<|o8 (a1g (j:=0) (c:=(.agg [(.int .i64 a_1.Kind),(.int .i64 a_1.N),(.str a_1.T),(.lst 1 (a_1.Keys.map AV.str)),(.lst 5 (a_1.Items.map o5))])) rfl trivial rfl rfl)<|o8 (a1g (j:=1) (c:=(.agg [(.int .i64 b_2.Kind),(.int .i64 b_2.N),(.str b_2.T),(.lst 1 (b_2.Keys.map AV.str)),(.lst 5 (b_2.Items.map o5))])) rfl trivial rfl rfl)<|?_
 refine l7 (.bool false) rfl<|dk<|o6<|o6<|?_
 obtain ⟨s41_8,hb1,hf⟩:=ob hf
 refine a2v ([(2,(.ptr 0 0 0)),(3,(.ptr 1 0 0)),(41,(.bool s41_8))],[.box 5 (.agg [(.int .i64 a_1.Kind),(.int .i64 a_1.N),(.str a_1.T),(.lst 1 (a_1.Keys.map AV.str)),(.lst 5 (a_1.Items.map o5))]),.box 5 (.agg [(.int .i64 b_2.Kind),(.int .i64 b_2.N),(.str b_2.T),(.lst 1 (b_2.Keys.map AV.str)),(.lst 5 (b_2.Items.map o5))])]) ?_ ?_
 ·refine a0z<|o7 (.ptr 0 0 0) rfl trivial rfl<|o7 (.int .i64 a_1.Kind) rfl nle rfl<|o7 (.ptr 1 0 0) rfl trivial rfl<|o7 (.int .i64 b_2.Kind) rfl nle rfl<|o7 (.bool (a_1.Kind != b_2.Kind)) rfl rfl rfl<|l7 (.bool (a_1.Kind != b_2.Kind)) rfl<|?_;refine s_g (v:=(a_1.Kind != b_2.Kind)) (.ptr 0 0 1) rfl (fun hv => by (try simp only [a0g hv]);exact ⟨rfl,trivial,rfl⟩) ?_;refine s_g (v:=(a_1.Kind != b_2.Kind)) (.int .i64 a_1.N) rfl (fun hv => by (try simp only [a0g hv]);exact ⟨rfl,nle,rfl⟩) ?_;refine s_g (v:=(a_1.Kind != b_2.Kind)) (.ptr 1 0 1) rfl (fun hv => by (try simp only [a0g hv]);exact ⟨rfl,trivial,rfl⟩) ?_;refine s_g (v:=(a_1.Kind != b_2.Kind)) (.int .i64 b_2.N) rfl (fun hv => by (try simp only [a0g hv]);exact ⟨rfl,nle,rfl⟩) ?_
  refine s_g (v:=(a_1.Kind != b_2.Kind)) (.bool (a_1.N != b_2.N)) rfl (fun hv => by (try simp only [a0g hv]);exact ⟨rfl,rfl,rfl⟩) ?_;refine a5a (x:=true) (y:=(a_1.N != b_2.N)) rfl (fun hv => by (try simp only [a0g hv]);rfl) (fun hv => by (try simp only [a0g hv]);rfl) ?_;refine l7 (.bool (bif (a_1.Kind != b_2.Kind) then true else (a_1.N != b_2.N))) rfl ?_;refine s_g (v:=(bif (a_1.Kind != b_2.Kind) then true else (a_1.N != b_2.N))) (.ptr 0 0 2) rfl (fun hv => by (try simp only [a0g hv]);exact ⟨rfl,trivial,rfl⟩) ?_;refine s_g (v:=(bif (a_1.Kind != b_2.Kind) then true else (a_1.N != b_2.N))) (.str a_1.T) rfl (fun hv => by (try simp only [a0g hv]);exact ⟨rfl,nle,rfl⟩) ?_;refine s_g (v:=(bif (a_1.Kind != b_2.Kind) then true else (a_1.N != b_2.N))) (.ptr 1 0 2) rfl (fun hv => by (try simp only [a0g hv]);exact ⟨rfl,trivial,rfl⟩) ?_
  refine s_g (v:=(bif (a_1.Kind != b_2.Kind) then true else (a_1.N != b_2.N))) (.str b_2.T) rfl (fun hv => by (try simp only [a0g hv]);exact ⟨rfl,nle,rfl⟩) ?_;refine s_g (v:=(bif (a_1.Kind != b_2.Kind) then true else (a_1.N != b_2.N))) (.bool (!(a_1.T == b_2.T))) rfl (fun hv => by (try simp only [a0g hv]);exact ⟨rfl,trivial,rfl⟩) ?_;refine a5a (x:=true) (y:=(!(a_1.T == b_2.T))) rfl (fun hv => by (try simp only [a0g hv]);rfl) (fun hv => by (try simp only [a0g hv]);rfl) ?_;refine l7 (.bool (bif (bif (a_1.Kind != b_2.Kind) then true else (a_1.N != b_2.N)) then true else (!(a_1.T == b_2.T)))) rfl ?_
  rcases oi hb1 with ⟨c10,hb1⟩ | ⟨c10,hb1⟩
  ·refine a1k (s:=25) (b:=true) rfl c10<|a0a rfl rfl<|a0a rfl rfl<|a0a rfl rfl<|a0a rfl rfl<|a0a rfl rfl<|a0a rfl rfl<|o7 (.bool true) rfl trivial rfl<|l7 (.bool true) rfl<|a0a rfl rfl<|a0a rfl rfl<|a0a rfl rfl<|a0a rfl rfl<|a0a rfl rfl<|a0a rfl rfl<|a0a rfl rfl<|o7 (.bool true) rfl trivial rfl<|a0e<|?_;obtain rfl:=os hb1;exact ⟨[],[0,1],_,_,rfl,rfl,⟨.refl _,⟨.refl _,⟨.refl _,trivial⟩⟩⟩,(.refl _)⟩
  ·refine a1k (s:=25) (b:=false) rfl (bf c10)<|s_on rfl<|o7 (.ptr 0 0 3) rfl trivial rfl<|s_on rfl<|o7 (.lst 1 (a_1.Keys.map AV.str)) rfl nle rfl<|s_on rfl<|o7 (.ptr 1 0 3) rfl trivial rfl<|s_on rfl<|o7 (.lst 1 (b_2.Keys.map AV.str)) rfl nle rfl<|s_on rfl<|?_
   obtain ⟨r_11,er12,hb1⟩:=ob hb1
   refine o8 (a1f (c1d _ _ _ er12) rfl (.refl _) rfl)<|s_on rfl<|o7 (.bool (!r_11)) rfl trivial rfl<|o7 (.bool (!r_11)) rfl trivial rfl<|l7 (.bool (!r_11)) rfl<|?_;refine s_g (v:=(!r_11)) (.ptr 0 0 4) rfl (fun hv => by (try simp only [a0g hv]);exact ⟨rfl,trivial,rfl⟩) ?_;refine s_g (v:=(!r_11)) (.lst 5 (a_1.Items.map o5)) rfl (fun hv => by (try simp only [a0g hv]);exact ⟨rfl,nle,rfl⟩) ?_;refine s_g (v:=(!r_11)) (.int .i64 (a_1.Items.length:Int)) rfl (fun hv => by (try simp only [a0g hv]);exact ⟨rfl,trivial,lenV _ _⟩) ?_;refine s_g (v:=(!r_11)) (.ptr 1 0 4) rfl (fun hv => by (try simp only [a0g hv]);exact ⟨rfl,trivial,rfl⟩) ?_;refine s_g (v:=(!r_11)) (.lst 5 (b_2.Items.map o5)) rfl (fun hv => by (try simp only [a0g hv]);exact ⟨rfl,nle,rfl⟩) ?_
   refine s_g (v:=(!r_11)) (.int .i64 (b_2.Items.length:Int)) rfl (fun hv => by (try simp only [a0g hv]);exact ⟨rfl,trivial,lenV _ _⟩) ?_;refine s_g (v:=(!r_11)) (.bool ((a_1.Items.length:Int) != (b_2.Items.length:Int))) rfl (fun hv => by (try simp only [a0g hv]);exact ⟨rfl,rfl,rfl⟩) ?_;refine a5a (x:=true) (y:=((a_1.Items.length:Int) != (b_2.Items.length:Int))) rfl (fun hv => by (try simp only [a0g hv]);rfl) (fun hv => by (try simp only [a0g hv]);rfl) ?_;refine a0e ?_;obtain rfl:=os hb1;exact ⟨[],[0,1],_,_,rfl,rfl,⟨.refl _,⟨.refl _,⟨.refl _,trivial⟩⟩⟩,(.refl _)⟩
 ·rcases oi hf with ⟨c15,hf⟩ | ⟨c15,hf⟩
  ·refine a0b rfl c15<|sr<|l7 (.bool false) rfl<|dk<|a0d<|?_;obtain rfl:=os hf;exact a0m ⟨trivial,trivial⟩ rfl (.refl _)
  ·refine a0c rfl (bf c15)<|a0i<|a0h<|o6<|sr<|l7 (.int .i64 0) rfl<|dk<|?_
   obtain ⟨p46,hb1,hf⟩:=ob hf
   refine a4k (X:={q:Unit // p46 = .go q}) (fun q => ([],[])) ?_ ?_
   ·refine a1v (X:={q:Nat // a3m b_2 rec (a_1.Items.drop q) q = some p46}) (fun q => ([(2,(.ptr 0 0 0)),(3,(.ptr 1 0 0)),(5,(.int .i64 (q.1:Int)))],[.box 5 (.agg [(.int .i64 a_1.Kind),(.int .i64 a_1.N),(.str a_1.T),(.lst 1 (a_1.Keys.map AV.str)),(.lst 5 (a_1.Items.map o5))]),.box 5 (.agg [(.int .i64 b_2.Kind),(.int .i64 b_2.N),(.str b_2.T),(.lst 1 (b_2.Keys.map AV.str)),(.lst 5 (b_2.Items.map o5))])])) (fun q => a_1.Items.length - q.1) ⟨0,hb1⟩ ⟨[],[0,1],_,_,rfl,rfl,⟨.refl _,⟨.refl _,⟨.refl _,trivial⟩⟩⟩,(.refl _)⟩ ?_
    rintro ⟨i_35,hc1⟩
    have hc1:a3m b_2 rec (a_1.Items.drop i_35) i_35 = some p46:=hc1
    refine (show awp Tryz.prog false 0 _ (ofL [(2,(.ptr 0 0 0)),(3,(.ptr 1 0 0)),(5,(.int .i64 (i_35:Int)))]) [.box 5 (.agg [(.int .i64 a_1.Kind),(.int .i64 a_1.N),(.str a_1.T),(.lst 1 (a_1.Keys.map AV.str)),(.lst 5 (a_1.Items.map o5))]),.box 5 (.agg [(.int .i64 b_2.Kind),(.int .i64 b_2.N),(.str b_2.T),(.lst 1 (b_2.Keys.map AV.str)),(.lst 5 (b_2.Items.map o5))])] _ from ?_)
    rcases a7j a_1.Items i_35 with ⟨hie49,hd52⟩ | ⟨hlt47,x_53,hx48,hd52⟩
    ·rw [hd52,a3m.eq_1] at hc1
     have hq51:=dlf hie49
     refine o6<|sr<|l7 (.int .i64 (i_35:Int)) rfl<|o7 (.ptr 0 0 4) rfl trivial rfl<|o7 (.lst 5 (a_1.Items.map o5)) rfl nle rfl<|a1n (a3d (enc:=o5) rfl) fun hl54 => o7 (.bool (decide ((i_35:Int) < (a_1.Items.length:Int)))) rfl rfl rfl<|dk<|a0c rfl hq51<|a4b<|a4a<|a2w<|a3z<|?_;obtain rfl:=os hc1;exact a5z ⟨_,rfl⟩ ⟨[],[],_,_,rfl,rfl,trivial,(.refl _)⟩
    ·rw [hd52,a3m.eq_2] at hc1
     have hq51:=dlt hlt47
     refine o6<|sr<|l7 (.int .i64 (i_35:Int)) rfl<|o7 (.ptr 0 0 4) rfl trivial rfl<|o7 (.lst 5 (a_1.Items.map o5)) rfl nle rfl<|a1n (a3d (enc:=o5) rfl) fun hl55 => o7 (.bool (decide ((i_35:Int) < (a_1.Items.length:Int)))) rfl rfl rfl<|dk<|a0b rfl hq51<|a0i<|a0h<|o6<|a3s<|sr<|?_
     obtain ⟨x_56,ex57,hc1⟩:=ob hc1
     obtain ⟨r_58,er59,hc1⟩:=ob hc1
     refine o7 (.ptr 0 0 4) rfl trivial rfl<|o7 (.lst 5 (a_1.Items.map o5)) rfl nle rfl<|l7 (.int .i64 (i_35:Int)) rfl<|o8 (a3o (enc:=o5) rfl rfl hx48)<|o8 (a9d (v:=(.agg [(.int .i64 x_53.Kind),(.int .i64 x_53.N),(.str x_53.T),(.lst 1 (x_53.Keys.map AV.str)),(.lst 5 (x_53.Items.map o5))])) rfl (y8 _) nle rfl)<|o7 (.ptr 1 0 4) rfl trivial rfl<|o7 (.lst 5 (b_2.Items.map o5)) rfl nle rfl<|l7 (.int .i64 (i_35:Int)) rfl<|o8 (a5l (enc:=o5) rfl rfl (b2x ex57) (b2y ex57))<|o8 (a9d (v:=(.agg [(.int .i64 x_56.Kind),(.int .i64 x_56.N),(.str x_56.T),(.lst 1 (x_56.Keys.map AV.str)),(.lst 5 (x_56.Items.map o5))])) rfl (y8 _) nle rfl)<|?_
     refine a1r (a1f (hrec _ _ _ er59) rfl (.cons (.of_eq (y8 x_53).symm) (.cons (.of_eq (y8 x_56).symm) .nil)) rfl) a9t trivial<|o7 (.bool (!r_58)) rfl trivial rfl<|dk<|?_
     rcases oi hc1 with ⟨c60,hc1⟩ | ⟨c60,hc1⟩
     ·refine a0b rfl c60<|sr<|l7 (.bool false) rfl<|dk<|a0d<|?_;obtain rfl:=os hc1;obtain rfl:=os hf;exact a0m ⟨trivial,trivial⟩ rfl (.refl _)
     ·refine a0c rfl (bf c60)<|a0i<|a3l<|a0h<|a0z<|l7 (.int .i64 (i_35:Int)) rfl<|o7 (.int .i64 (w64 ((i_35:Int) + 1))) rfl rfl rfl<|l7 (.int .i64 (w64 ((i_35:Int) + 1))) rfl<|a0e<|?_;exact a2p ⟨(i_35 + 1),hc1⟩ (mul hlt47) ⟨[],[0,1],_,_,rfl,rfl,⟨.refl _,⟨.refl _,⟨.of_eq (congrArg (AV.int _) (a3h hlt47 hl55)),trivial⟩⟩⟩,(.refl _)⟩
   ·rintro ⟨_,rfl⟩
    refine sr<|l7 (.bool true) rfl<|dk<|a0d<|?_;obtain rfl:=os hf;exact a0m ⟨trivial,trivial⟩ rfl (.refl _)
def a5t:Nat → y7 → y7 → Option Bool
 | 0,_,_ => none
 | k + 1,a_1,b_2 => a9m (a5t k) a_1 b_2
theorem b5j:∀ (k:Nat) (a_1:y7) (b_2:y7) (r:Bool),a5t k a_1 b_2 = some r → y9 Tryz.prog 52 .flat [(o5 a_1),(o5 b_2)] (.bool r)
 | 0,a_1,b_2,r,h => by rw [a5t.eq_1] at h;cases h
 | k + 1,a_1,b_2,r,h => by
  rw [a5t.eq_2] at h;exact b9l _ (b5j k) a_1 b_2 r h

/- laws.sameDatum -/
def c53:a0p :=
 (.seq (.reg (tm 4 (.c (.bool false)) .done))
 (.seq (.seq (.reg (tm 6 (.t 0) (tq 7 (.len (.t 6)) (tm 8 (.t 1) (tq 9 (.len (.t 8)) (tq 10 (.bin .neq (.t 7) (.t 9)) .done))))))
 (.cond (.t 10) (.seq (.reg (tm 4 (.c (.bool false)) .done))
 .ret)
 .skip))
 (.seq (.seq (.reg (tm 5 (.c (.int .i64 0)) .done))
 (.block 0 (.loop (.seq (.seq (.reg (tm 11 (.t 5) (tm 12 (.t 0) (tq 13 (.len (.t 12)) (tq 14 (.bin .lss (.t 11) (.t 13)) .done)))))
 (.cond (.t 14) .skip
 (.exit 0)))
 (.seq (.block 1 (.seq (.reg (tm 17 (.t 0) (tm 18 (.t 5) (tq 19 (.iaddr 3 (.t 17) (.t 18)) (tq 20 (.load 3 true (.t 19)) (tm 21 (.t 1) (tm 22 (.t 5) (tq 23 (.iaddr 3 (.t 21) (.t 22)) (tq 24 (.load 3 true (.t 23)) (tq 25 (.eqs true [0,0,2] (.t 20) (.t 24)) .done))))))))))
 (.cond (.t 25) (.seq (.reg (tm 4 (.c (.bool false)) .done))
 .ret)
 .skip)))
 (.reg (tm 15 (.t 5) (tq 16 (.bin .add (.t 15) (.c (.int .i64 1))) (tm 5 (.t 16) .done)))))))))
 (.cut (.seq (.reg (tm 4 (.c (.bool true)) .done))
 .ret)))))
theorem e6t:a1b Tryz.prog Tryz.f53 = some (c53.erase,[.mov (.t 4)],26):=by kernel_rfl
def a3x (b_2:(List x8)):List x8 → Nat → Option (Fl Bool Unit)
  | [],i_21 =>
    some (.go ())
  | x_37 :: xs,i_21 =>
    (idx b_2 (i_21:Int)).bind fun x_40 =>
    if (!(x_37.Kind == x_40.Kind && (x_37.N == x_40.N && (x_37.T == x_40.T && true)))) then
    some (.ret false)
    else
    a3x b_2 xs (i_21 + 1)

def a7o (a_1:(List x8)) (b_2:(List x8)):Option Bool :=
    if ((a_1.length:Int) != (b_2.length:Int)) then
    some false
    else
    (a3x b_2 a_1 0).bind fun q => (match q with
    | .ret r => some r
    | .go _ =>
    some true)
theorem b4h (a_1:(List x8)) (b_2:(List x8)) (r:Bool) (hf:a7o a_1 b_2 = some r):y9 Tryz.prog 53 .flat [(.lst 3 (a_1.map l9)),(.lst 3 (b_2.map l9))] (.bool r):=by
 refine y9.of_awp mixed Tryz.func53 e6t nle ?_;rw [a0f];unfold a7o at hf;unfold c53;refine (show awp Tryz.prog false 0 _ (ofL [(0,(.lst 3 (a_1.map l9))),(1,(.lst 3 (b_2.map l9)))]) [] _ from ?_);refine sr<|l7 (.bool false) rfl<|dk<|o6<|sr<|l7 (.lst 3 (a_1.map l9)) rfl<|a1n (a3d (enc:=l9) rfl) fun hl3 => l7 (.lst 3 (b_2.map l9)) rfl<|a1n (a3d (enc:=l9) rfl) fun hl4 => o7 (.bool ((a_1.length:Int) != (b_2.length:Int))) rfl rfl rfl<|dk<|?_
 rcases oi hf with ⟨c5,hf⟩ | ⟨c5,hf⟩
 ·refine a0b rfl c5<|sr<|l7 (.bool false) rfl<|dk<|a0d<|?_;obtain rfl:=os hf;exact a0m ⟨trivial,trivial⟩ rfl (.refl _)
 ·refine a0c rfl (bf c5)<|a0i<|a0h<|o6<|sr<|l7 (.int .i64 0) rfl<|dk<|?_
  obtain ⟨p30,hb1,hf⟩:=ob hf
  refine a4k (X:={q:Unit // p30 = .go q}) (fun q => ([],[])) ?_ ?_
  ·refine a1v (X:={q:Nat // a3x b_2 (a_1.drop q) q = some p30}) (fun q => ([(0,(.lst 3 (a_1.map l9))),(1,(.lst 3 (b_2.map l9))),(5,(.int .i64 (q.1:Int)))],[])) (fun q => a_1.length - q.1) ⟨0,hb1⟩ ⟨[],[],_,_,rfl,rfl,⟨.refl _,⟨.refl _,⟨.refl _,trivial⟩⟩⟩,(.refl _)⟩ ?_
   rintro ⟨i_21,hc1⟩
   have hc1:a3x b_2 (a_1.drop i_21) i_21 = some p30:=hc1
   refine (show awp Tryz.prog false 0 _ (ofL [(0,(.lst 3 (a_1.map l9))),(1,(.lst 3 (b_2.map l9))),(5,(.int .i64 (i_21:Int)))]) [] _ from ?_)
   rcases a7j a_1 i_21 with ⟨hie33,hd36⟩ | ⟨hlt31,x_37,hx32,hd36⟩
   ·rw [hd36,a3x.eq_1] at hc1
    have hq35:=dlf hie33
    refine o6<|sr<|l7 (.int .i64 (i_21:Int)) rfl<|l7 (.lst 3 (a_1.map l9)) rfl<|a1n (a3d (enc:=l9) rfl) fun hl38 => o7 (.bool (decide ((i_21:Int) < (a_1.length:Int)))) rfl rfl rfl<|dk<|a0c rfl hq35<|a4b<|a4a<|a2w<|a3z<|?_;obtain rfl:=os hc1;exact a5z ⟨_,rfl⟩ ⟨[],[],_,_,rfl,rfl,trivial,(.refl _)⟩
   ·rw [hd36,a3x.eq_2] at hc1
    have hq35:=dlt hlt31
    refine o6<|sr<|l7 (.int .i64 (i_21:Int)) rfl<|l7 (.lst 3 (a_1.map l9)) rfl<|a1n (a3d (enc:=l9) rfl) fun hl39 => o7 (.bool (decide ((i_21:Int) < (a_1.length:Int)))) rfl rfl rfl<|dk<|a0b rfl hq35<|a0i<|a0h<|o6<|a3s<|sr<|?_
    obtain ⟨x_40,ex41,hc1⟩:=ob hc1
    refine l7 (.lst 3 (a_1.map l9)) rfl<|l7 (.int .i64 (i_21:Int)) rfl<|o8 (a3o (enc:=l9) rfl rfl hx32)<|o7 (l9 x_37) rfl nle rfl<|l7 (.lst 3 (b_2.map l9)) rfl<|l7 (.int .i64 (i_21:Int)) rfl<|o8 (a5l (enc:=l9) rfl rfl (b2x ex41) (b2y ex41))<|o7 (l9 x_40) rfl nle rfl<|o7 (.bool (!(x_37.Kind == x_40.Kind && (x_37.N == x_40.N && (x_37.T == x_40.T && true))))) rfl ⟨⟨rfl,rfl⟩,⟨⟨rfl,rfl⟩,⟨rfl,trivial⟩⟩⟩ rfl<|dk<|?_
    rcases oi hc1 with ⟨c42,hc1⟩ | ⟨c42,hc1⟩
    ·refine a0b rfl c42<|sr<|l7 (.bool false) rfl<|dk<|a0d<|?_;obtain rfl:=os hc1;obtain rfl:=os hf;exact a0m ⟨trivial,trivial⟩ rfl (.refl _)
    ·refine a0c rfl (bf c42)<|a0i<|a3l<|a0h<|a0z<|l7 (.int .i64 (i_21:Int)) rfl<|o7 (.int .i64 (w64 ((i_21:Int) + 1))) rfl rfl rfl<|l7 (.int .i64 (w64 ((i_21:Int) + 1))) rfl<|a0e<|?_;exact a2p ⟨(i_21 + 1),hc1⟩ (mul hlt31) ⟨[],[],_,_,rfl,rfl,⟨.refl _,⟨.refl _,⟨.of_eq (congrArg (AV.int _) (a3h hlt31 hl39)),trivial⟩⟩⟩,(.refl _)⟩
  ·rintro ⟨_,rfl⟩
   refine sr<|l7 (.bool true) rfl<|dk<|a0d<|?_;obtain rfl:=os hf;exact a0m ⟨trivial,trivial⟩ rfl (.refl _)

/- impl.AtomJson -/
def c54:a0p :=
 (.seq (.reg (tq 1 (.box 3 (.t 0)) (tq 2 (.box 5 (.c (.agg [(.int .i64 0),(.int .i64 0),(.str []),.nil,.nil]))) (tm 3 (.c (.int .i64 0)) .done))))
 (.seq (.seq (.reg (tq 4 (.load 3 true (.t 1)) (tq 5 (.call 135 [(.t 4)]) (tq 6 (.not (.t 5)) .done))))
 (.cond (.t 6) (.seq (.reg (tq 7 (.build [(.int .i64 0),(.int .i64 0),(.str []),.nil,.nil] []) (.q ⟨none,none,.store 5 (.t 2) (.t 7)⟩
 (tm 3 (.c (.int .i64 1)) .done))))
 .ret)
 .skip))
 (.seq (.reg (tq 8 (.load 3 true (.t 1)) (tq 9 (.call 136 [(.t 8)]) (.q ⟨none,none,.store 5 (.t 2) (.t 9)⟩
 (tm 3 (.c (.int .i64 0)) .done)))))
 .ret)))
theorem e6u:a1b Tryz.prog Tryz.f54 = some (c54.erase,[.load 5 true (.t 2),.mov (.t 3)],10):=by kernel_rfl
def a9e (a_1:x8):Option (y7 × Int) :=
    (a6t a_1).bind fun r_2 =>
    if (!r_2) then
    some ((⟨0,0,[],[],[]⟩:y7),1)
    else
    (a5r a_1).bind fun r_5 =>
    some (r_5,0)
theorem c2l (a_1:x8) (r:(y7 × Int)) (hf:a9e a_1 = some r):y9 Tryz.prog 54 .fresh [(l9 a_1)] (.tup [(o5 r.1),(.int .i64 r.2)]):=by
 refine y9.of_awp mixed Tryz.func54 e6u nle ?_;rw [a0f];unfold a9e at hf;unfold c54;refine (show awp Tryz.prog true 0 _ (ofL [(0,(l9 a_1))]) [] _ from ?_);refine sr<|o8 (a1g (j:=0) (c:=(.agg [(.int .i64 a_1.Kind),(.int .i64 a_1.N),(.str a_1.T)])) rfl trivial rfl rfl)<|o8 (a1g (j:=1) (c:=(.agg [(.int .i64 0),(.int .i64 0),(.str []),.nil,.nil])) rfl trivial rfl rfl)<|l7 (.int .i64 0) rfl<|dk<|o6<|sr<|?_
 obtain ⟨r_2,er3,hf⟩:=ob hf
 refine o7 (.agg [(.int .i64 a_1.Kind),(.int .i64 a_1.N),(.str a_1.T)]) rfl nle rfl<|o8 (a1f (b1k _ _ er3) rfl (.refl _) rfl)<|o7 (.bool (!r_2)) rfl trivial rfl<|dk<|?_
 rcases oi hf with ⟨c4,hf⟩ | ⟨c4,hf⟩
 ·refine a0b rfl c4<|sr<|o7 (.agg [(.int .i64 0),(.int .i64 0),(.str []),.nil,.nil]) rfl trivial rfl<|a1i (x9 (v:=(.agg [(.int .i64 0),(.int .i64 0),(.str []),.nil,.nil])) (y':=(.agg [(.int .i64 0),(.int .i64 0),(.str []),.nil,.nil])) rfl rfl rfl trivial ⟨rfl,nle⟩ ⟨⟨rfl,trivial⟩,⟨⟨rfl,trivial⟩,⟨⟨rfl,trivial⟩,⟨⟨rfl,trivial⟩,⟨⟨rfl,trivial⟩,trivial⟩⟩⟩⟩⟩ rfl)<|l7 (.int .i64 1) rfl<|dk<|a0d<|?_;obtain rfl:=os hf;exact a1j ⟨nle,⟨trivial,trivial⟩⟩ rfl (by decide) (.tup (.cons (leJ (x:=(⟨0,0,[],[],[]⟩:y7)) (.agg (.cons (.refl _) (.cons (.refl _) (.cons (.refl _) (.cons (.nil _) (.cons (.nil _) .nil))))))) (.cons (.refl _) .nil)))
 ·refine a0c rfl (bf c4)<|a0i<|a0h<|sr<|?_
  obtain ⟨r_5,er6,hf⟩:=ob hf
  refine o7 (.agg [(.int .i64 a_1.Kind),(.int .i64 a_1.N),(.str a_1.T)]) rfl nle rfl<|o8 (a3j (v:=(.agg [(.int .i64 r_5.Kind),(.int .i64 r_5.N),(.str r_5.T),(.own 2 0 r_5.Keys.length),(.own 3 0 r_5.Items.length)])) (h':=[.row 1 (r_5.Keys.map AV.str),.row 5 (r_5.Items.map o5)]) (b5g _ _ er6) rfl (.refl _) (by simp only [a2b,a2c,List.length_map,y8,List.nil_append,List.append_nil,List.cons_append];rfl))<|a1i (x9 (v:=(.agg [(.int .i64 r_5.Kind),(.int .i64 r_5.N),(.str r_5.T),(.own 2 0 r_5.Keys.length),(.own 3 0 r_5.Items.length)])) (y':=(.agg [(.int .i64 r_5.Kind),(.int .i64 r_5.N),(.str r_5.T),(.own 2 0 r_5.Keys.length),(.own 3 0 r_5.Items.length)])) rfl rfl rfl trivial ⟨rfl,nle⟩ ⟨⟨rfl,trivial⟩,⟨⟨rfl,trivial⟩,⟨⟨rfl,trivial⟩,⟨⟨rfl,trivial⟩,⟨⟨rfl,trivial⟩,trivial⟩⟩⟩⟩⟩ rfl)<|?_
  refine l7 (.int .i64 0) rfl<|dk<|a0d<|?_;obtain rfl:=os hf;exact a1j ⟨nle,⟨trivial,trivial⟩⟩ rfl (by decide) (.tup (.cons (leJ (x:=r_5) (.agg (.cons (.refl _) (.cons (.refl _) (.cons (.refl _) (.cons (.of_eq (congrArg (AV.lst _) (tk (enc:=AV.str) r_5.Keys))) (.cons (.of_eq (congrArg (AV.lst _) (tk (enc:=o5) r_5.Items))) .nil))))))) (.cons (.refl _) .nil)))

/- impl.JsonAtom -/
def c55:a0p :=
 (.seq (.reg (tq 1 (.box 5 (.t 0)) (tq 2 (.box 3 (.c (.agg [(.int .i64 0),(.int .i64 0),(.str [])]))) (tm 3 (.c (.int .i64 0)) .done))))
 (.seq (.seq (.reg (tq 6 (.load 5 true (.t 1)) (tq 7 (.call 124 [(.t 6)]) (tq 8 (.not (.t 7)) .done))))
 (.cond (.t 8) (.seq (.reg (tq 9 (.build [(.int .i64 0),(.int .i64 0),(.str [])] []) (.q ⟨none,none,.store 3 (.t 2) (.t 9)⟩
 (tm 3 (.c (.int .i64 1)) .done))))
 .ret)
 .skip))
 (.seq (.reg (tq 11 (.load 5 true (.t 1)) (tq 12 (.call 137 [(.t 11)]) (tm 10 (.t 12) (tq 13 (.extract 0 (.t 10)) (tq 14 (.extract 1 (.t 10)) (tq 4 (.box 3 (.c (.agg [(.int .i64 0),(.int .i64 0),(.str [])]))) (.q ⟨none,none,.store 3 (.t 4) (.t 13)⟩
 (tm 5 (.t 14) .done)))))))))
 (.seq (.seq (.reg (tm 15 (.t 5) (tq 16 (.not (.t 15)) .done)))
 (.cond (.t 16) (.seq (.reg (tq 17 (.build [(.int .i64 0),(.int .i64 0),(.str [])] []) (.q ⟨none,none,.store 3 (.t 2) (.t 17)⟩
 (tm 3 (.c (.int .i64 3)) .done))))
 .ret)
 .skip))
 (.seq (.reg (tq 18 (.load 3 true (.t 4)) (.q ⟨none,none,.store 3 (.t 2) (.t 18)⟩
 (tm 3 (.c (.int .i64 0)) .done))))
 .ret)))))
theorem e6v:a1b Tryz.prog Tryz.f55 = some (c55.erase,[.load 3 true (.t 2),.mov (.t 3)],19):=by kernel_rfl
def a9f (j_1:y7):Option (x8 × Int) :=
    (a8s j_1).bind fun r_2 =>
    if (!r_2) then
    some ((⟨0,0,[]⟩:x8),1)
    else
    (a5s j_1).bind fun r_5 =>
    if (!r_5.2) then
    some ((⟨0,0,[]⟩:x8),3)
    else
    some (r_5.1,0)
theorem c2n (j_1:y7) (r:(x8 × Int)) (hf:a9f j_1 = some r):y9 Tryz.prog 55 .flat [(o5 j_1)] (.tup [(l9 r.1),(.int .i64 r.2)]):=by
 refine y9.of_awp mixed Tryz.func55 e6v nle ?_;rw [a0f];rw [y8 j_1];unfold a9f at hf;unfold c55;refine (show awp Tryz.prog false 0 _ (ofL [(0,(.agg [(.int .i64 j_1.Kind),(.int .i64 j_1.N),(.str j_1.T),(.lst 1 (j_1.Keys.map AV.str)),(.lst 5 (j_1.Items.map o5))]))]) [] _ from ?_);refine sr<|o8 (a1g (j:=0) (c:=(.agg [(.int .i64 j_1.Kind),(.int .i64 j_1.N),(.str j_1.T),(.lst 1 (j_1.Keys.map AV.str)),(.lst 5 (j_1.Items.map o5))])) rfl trivial rfl rfl)<|o8 (a1g (j:=1) (c:=(.agg [(.int .i64 0),(.int .i64 0),(.str [])])) rfl trivial rfl rfl)<|l7 (.int .i64 0) rfl<|dk<|o6<|sr<|?_
 obtain ⟨r_2,er3,hf⟩:=ob hf
 refine o7 (.agg [(.int .i64 j_1.Kind),(.int .i64 j_1.N),(.str j_1.T),(.lst 1 (j_1.Keys.map AV.str)),(.lst 5 (j_1.Items.map o5))]) rfl nle rfl<|o8 (a1f (b3x _ _ er3) rfl (.cons (.of_eq (y8 j_1).symm) .nil) rfl)<|o7 (.bool (!r_2)) rfl trivial rfl<|dk<|?_
 rcases oi hf with ⟨c4,hf⟩ | ⟨c4,hf⟩
 ·refine a0b rfl c4<|sr<|o7 (.agg [(.int .i64 0),(.int .i64 0),(.str [])]) rfl trivial rfl<|a1i (x9 (v:=(.agg [(.int .i64 0),(.int .i64 0),(.str [])])) (y':=(.agg [(.int .i64 0),(.int .i64 0),(.str [])])) rfl rfl rfl trivial ⟨rfl,nle⟩ ⟨⟨rfl,trivial⟩,⟨⟨rfl,trivial⟩,⟨⟨rfl,trivial⟩,trivial⟩⟩⟩ rfl)<|l7 (.int .i64 1) rfl<|dk<|a0d<|?_;obtain rfl:=os hf;exact a0m ⟨nle,⟨trivial,trivial⟩⟩ rfl (.refl _)
 ·refine a0c rfl (bf c4)<|a0i<|a0h<|sr<|?_
  obtain ⟨r_5,er6,hf⟩:=ob hf
  refine o7 (.agg [(.int .i64 j_1.Kind),(.int .i64 j_1.N),(.str j_1.T),(.lst 1 (j_1.Keys.map AV.str)),(.lst 5 (j_1.Items.map o5))]) rfl nle rfl<|o8 (a1f (b5h _ _ er6) rfl (.cons (.of_eq (y8 j_1).symm) .nil) rfl)<|l7 (.tup [(l9 r_5.1),(.bool r_5.2)]) rfl<|o7 (l9 r_5.1) rfl nle rfl<|o7 (.bool r_5.2) rfl nle rfl<|o8 (a1g (j:=2) (c:=(.agg [(.int .i64 0),(.int .i64 0),(.str [])])) rfl trivial rfl rfl)<|a1i (x9 (v:=(.agg [(.int .i64 r_5.1.Kind),(.int .i64 r_5.1.N),(.str r_5.1.T)])) (y':=(.agg [(.int .i64 r_5.1.Kind),(.int .i64 r_5.1.N),(.str r_5.1.T)])) rfl rfl rfl trivial ⟨rfl,nle⟩ ⟨⟨rfl,trivial⟩,⟨⟨rfl,trivial⟩,⟨⟨rfl,trivial⟩,trivial⟩⟩⟩ rfl)<|?_
  refine l7 (.bool r_5.2) rfl<|dk<|o6<|sr<|l7 (.bool r_5.2) rfl<|o7 (.bool (!r_5.2)) rfl trivial rfl<|dk<|?_
  rcases oi hf with ⟨c7,hf⟩ | ⟨c7,hf⟩
  ·refine a0b rfl c7<|sr<|o7 (.agg [(.int .i64 0),(.int .i64 0),(.str [])]) rfl trivial rfl<|a1i (x9 (v:=(.agg [(.int .i64 0),(.int .i64 0),(.str [])])) (y':=(.agg [(.int .i64 0),(.int .i64 0),(.str [])])) rfl rfl rfl trivial ⟨rfl,nle⟩ ⟨⟨rfl,trivial⟩,⟨⟨rfl,trivial⟩,⟨⟨rfl,trivial⟩,trivial⟩⟩⟩ rfl)<|l7 (.int .i64 3) rfl<|dk<|a0d<|?_;obtain rfl:=os hf;exact a0m ⟨nle,⟨trivial,trivial⟩⟩ rfl (.refl _)
  ·refine a0c rfl (bf c7)<|a0i<|a0h<|sr<|o7 (.agg [(.int .i64 r_5.1.Kind),(.int .i64 r_5.1.N),(.str r_5.1.T)]) rfl nle rfl<|a1i (x9 (v:=(.agg [(.int .i64 r_5.1.Kind),(.int .i64 r_5.1.N),(.str r_5.1.T)])) (y':=(.agg [(.int .i64 r_5.1.Kind),(.int .i64 r_5.1.N),(.str r_5.1.T)])) rfl rfl rfl trivial ⟨rfl,nle⟩ ⟨⟨rfl,trivial⟩,⟨⟨rfl,trivial⟩,⟨⟨rfl,trivial⟩,trivial⟩⟩⟩ rfl)<|l7 (.int .i64 0) rfl<|dk<|a0d<|?_;obtain rfl:=os hf;exact a0m ⟨nle,⟨trivial,trivial⟩⟩ rfl (.refl _)

/- spec.PlainSchema -/
def c10:a0p :=
 (.seq (.reg (tq 0 (.box 1 (.c (.agg [.nil]))) .done))
 (.seq (.reg (tq 2 (.build [(.str []),(.int .i64 0),(.int .i64 0),(.int .i64 0),(.int .i64 0),(.int .i64 0),(.str []),(.bool false)] [(0,1,(.c (.str [110,97,109,101]))),(1,1,(.c (.int .i64 2))),(2,1,(.c (.int .i64 1))),(3,1,(.c (.int .i64 1)))]) (tq 1 (.box 8 (.c (.agg [(.str []),(.int .i64 0),(.int .i64 0),(.int .i64 0),(.int .i64 0),(.int .i64 0),(.str []),(.bool false)]))) (.q ⟨none,none,.store 8 (.t 1) (.t 2)⟩
 .done))))
 (.seq (.reg (tq 3 (.load 8 true (.t 1)) (tq 4 (.build [(.str []),(.int .i64 0),(.int .i64 0),(.int .i64 0),(.int .i64 0),(.int .i64 0),(.str []),(.bool false)] [(0,1,(.c (.str [97,98,111,117,116]))),(1,1,(.c (.int .i64 4))),(3,1,(.c (.int .i64 4))),(6,1,(.c (.str [112,111,114,116])))]) (tq 5 (.bslice 8 [(.t 3),(.t 4)]) (tq 6 (.build [(.str []),.nil,.nil,(.bool false)] [(0,1,(.c (.str [110,111,116,101]))),(1,1,(.t 5)),(3,1,(.c (.bool true)))]) (tq 7 (.load 8 true (.t 1)) (tq 8 (.build [(.str []),(.int .i64 0),(.int .i64 0),(.int .i64 0),(.int .i64 0),(.int .i64 0),(.str []),(.bool false)] [(0,1,(.c (.str [116,97,103]))),(1,1,(.c (.int .i64 1))),(3,1,(.c (.int .i64 1))),(4,1,(.c (.int .i64 0))),(5,1,(.c (.int .i64 99)))]) (tq 9 (.build [(.str []),(.int .i64 0),(.int .i64 0),(.int .i64 0),(.int .i64 0),(.int .i64 0),(.str []),(.bool false)] [(0,1,(.c (.str [117,112]))),(1,1,(.c (.int .i64 3))),(2,1,(.c (.int .i64 1))),(3,1,(.c (.int .i64 1)))]) (tq 10 (.bslice 8 [(.t 7),(.t 8),(.t 9)]) (tq 11 (.bslice 1 [(.c (.int .i64 0))]) (tq 12 (.build [(.str []),.nil,.nil,(.bool false)] [(0,1,(.c (.str [112,111,114,116]))),(1,1,(.t 10)),(2,1,(.t 11))]) (tq 13 (.load 8 true (.t 1)) (tq 14 (.build [(.str []),(.int .i64 0),(.int .i64 0),(.int .i64 0),(.int .i64 0),(.int .i64 0),(.str []),(.bool false)] [(0,1,(.c (.str [99,111,117,110,116]))),(1,1,(.c (.int .i64 1))),(2,1,(.c (.int .i64 1))),(3,1,(.c (.int .i64 1))),(4,1,(.c (.int .i64 (-1000)))),(5,1,(.c (.int .i64 1000)))]) (tq 15 (.build [(.str []),(.int .i64 0),(.int .i64 0),(.int .i64 0),(.int .i64 0),(.int .i64 0),(.str []),(.bool false)] [(0,1,(.c (.str [112,111,114,116,115]))),(1,1,(.c (.int .i64 4))),(3,1,(.c (.int .i64 8))),(6,1,(.c (.str [112,111,114,116]))),(7,1,(.c (.bool true)))]) (tq 16 (.bslice 8 [(.t 13),(.t 14),(.t 15)]) (tq 17 (.bslice 1 [(.c (.int .i64 0))]) (tq 18 (.build [(.str []),.nil,.nil,(.bool false)] [(0,1,(.c (.str [115,119,105,116,99,104]))),(1,1,(.t 16)),(2,1,(.t 17)),(3,1,(.c (.bool true)))]) (tq 19 (.bslice 4 [(.t 6),(.t 12),(.t 18)]) (tq 20 (.build [.nil] [(0,1,(.t 19))]) (.q ⟨none,none,.store 1 (.t 0) (.t 20)⟩
 .done))))))))))))))))))))
 .ret)))
theorem e6w:a1b Tryz.prog Tryz.f10 = some (c10.erase,[.load 1 true (.t 0)],21):=by kernel_rfl
def a9b :Option b9g :=
    some (⟨[(⟨[110,111,116,101],[(⟨[110,97,109,101],2,1,1,0,0,[],false⟩:a3f),(⟨[97,98,111,117,116],4,0,4,0,0,[112,111,114,116],false⟩:a3f)],[],true⟩:b4t),(⟨[112,111,114,116],[(⟨[110,97,109,101],2,1,1,0,0,[],false⟩:a3f),(⟨[116,97,103],1,0,1,0,99,[],false⟩:a3f),(⟨[117,112],3,1,1,0,0,[],false⟩:a3f)],[(0:Int)],false⟩:b4t),(⟨[115,119,105,116,99,104],[(⟨[110,97,109,101],2,1,1,0,0,[],false⟩:a3f),(⟨[99,111,117,110,116],1,1,1,(-1000),1000,[],false⟩:a3f),(⟨[112,111,114,116,115],4,0,8,0,0,[112,111,114,116],true⟩:a3f)],[(0:Int)],true⟩:b4t)]⟩:b9g)
theorem b8b  (r:b9g) (hf:a9b = some r):y9 Tryz.prog 10 .fresh [] (c4k r):=by
 refine y9.of_awp mixed Tryz.func10 e6w nle ?_;rw [a0f];unfold a9b at hf;unfold c10;refine (show awp Tryz.prog true 0 _ (ofL []) [] _ from ?_);refine sr<|o8 (a1g (j:=0) (c:=(.agg [.nil])) rfl trivial rfl rfl)<|dk<|sr<|o7 (.agg [(.str [110,97,109,101]),(.int .i64 2),(.int .i64 1),(.int .i64 1),(.int .i64 0),(.int .i64 0),(.str []),(.bool false)]) rfl ⟨⟨rfl,nle,trivial⟩,⟨⟨rfl,nle,trivial⟩,⟨⟨rfl,nle,trivial⟩,⟨⟨rfl,nle,trivial⟩,trivial⟩⟩⟩⟩ rfl<|o8 (a1g (j:=1) (c:=(.agg [(.str []),(.int .i64 0),(.int .i64 0),(.int .i64 0),(.int .i64 0),(.int .i64 0),(.str []),(.bool false)])) rfl trivial rfl rfl)<|a1i (x9 (v:=(.agg [(.str [110,97,109,101]),(.int .i64 2),(.int .i64 1),(.int .i64 1),(.int .i64 0),(.int .i64 0),(.str []),(.bool false)])) (y':=(.agg [(.str [110,97,109,101]),(.int .i64 2),(.int .i64 1),(.int .i64 1),(.int .i64 0),(.int .i64 0),(.str []),(.bool false)])) rfl rfl rfl trivial ⟨rfl,nle⟩ ⟨⟨rfl,trivial⟩,⟨⟨rfl,trivial⟩,⟨⟨rfl,trivial⟩,⟨⟨rfl,trivial⟩,⟨⟨rfl,trivial⟩,⟨⟨rfl,trivial⟩,⟨⟨rfl,trivial⟩,⟨⟨rfl,trivial⟩,trivial⟩⟩⟩⟩⟩⟩⟩⟩ rfl)<|?_
 refine dk<|sr<|o7 (.agg [(.str [110,97,109,101]),(.int .i64 2),(.int .i64 1),(.int .i64 1),(.int .i64 0),(.int .i64 0),(.str []),(.bool false)]) rfl nle rfl<|o7 (.agg [(.str [97,98,111,117,116]),(.int .i64 4),(.int .i64 0),(.int .i64 4),(.int .i64 0),(.int .i64 0),(.str [112,111,114,116]),(.bool false)]) rfl ⟨⟨rfl,nle,trivial⟩,⟨⟨rfl,nle,trivial⟩,⟨⟨rfl,nle,trivial⟩,⟨⟨rfl,nle,trivial⟩,trivial⟩⟩⟩⟩ rfl<|?_;refine o8 (a1c (j:=2) (as':=[(a1o (⟨[110,97,109,101],2,1,1,0,0,[],false⟩:a3f)),(a1o (⟨[97,98,111,117,116],4,0,4,0,0,[112,111,114,116],false⟩:a3f))]) rfl (fun _ => by decide) ⟨rfl,⟨rfl,trivial⟩⟩ (.refl _) rfl rfl rfl) ?_
 refine o7 (.agg [(.str [110,111,116,101]),(.own 2 0 2),.nil,(.bool true)]) rfl ⟨⟨rfl,nle,trivial⟩,⟨⟨rfl,nle,trivial⟩,⟨⟨rfl,nle,trivial⟩,trivial⟩⟩⟩ rfl<|o7 (.agg [(.str [110,97,109,101]),(.int .i64 2),(.int .i64 1),(.int .i64 1),(.int .i64 0),(.int .i64 0),(.str []),(.bool false)]) rfl nle rfl<|o7 (.agg [(.str [116,97,103]),(.int .i64 1),(.int .i64 0),(.int .i64 1),(.int .i64 0),(.int .i64 99),(.str []),(.bool false)]) rfl ⟨⟨rfl,nle,trivial⟩,⟨⟨rfl,nle,trivial⟩,⟨⟨rfl,nle,trivial⟩,⟨⟨rfl,nle,trivial⟩,⟨⟨rfl,nle,trivial⟩,trivial⟩⟩⟩⟩⟩ rfl<|o7 (.agg [(.str [117,112]),(.int .i64 3),(.int .i64 1),(.int .i64 1),(.int .i64 0),(.int .i64 0),(.str []),(.bool false)]) rfl ⟨⟨rfl,nle,trivial⟩,⟨⟨rfl,nle,trivial⟩,⟨⟨rfl,nle,trivial⟩,⟨⟨rfl,nle,trivial⟩,trivial⟩⟩⟩⟩ rfl<|?_
 refine o8 (a1c (j:=3) (as':=[(a1o (⟨[110,97,109,101],2,1,1,0,0,[],false⟩:a3f)),(a1o (⟨[116,97,103],1,0,1,0,99,[],false⟩:a3f)),(a1o (⟨[117,112],3,1,1,0,0,[],false⟩:a3f))]) rfl (fun _ => by decide) ⟨rfl,⟨rfl,⟨rfl,trivial⟩⟩⟩ (.refl _) rfl rfl rfl) ?_;refine o8 (a1c (j:=4) (as':=[(.int .i64 0)]) rfl (fun _ => by decide) ⟨rfl,trivial⟩ (.refl _) rfl rfl rfl) ?_;refine o7 (.agg [(.str [112,111,114,116]),(.own 3 0 3),(.own 4 0 1),(.bool false)]) rfl ⟨⟨rfl,nle,trivial⟩,⟨⟨rfl,nle,trivial⟩,⟨⟨rfl,nle,trivial⟩,trivial⟩⟩⟩ rfl<|o7 (.agg [(.str [110,97,109,101]),(.int .i64 2),(.int .i64 1),(.int .i64 1),(.int .i64 0),(.int .i64 0),(.str []),(.bool false)]) rfl nle rfl<|?_
 refine o7 (.agg [(.str [99,111,117,110,116]),(.int .i64 1),(.int .i64 1),(.int .i64 1),(.int .i64 (-1000)),(.int .i64 1000),(.str []),(.bool false)]) rfl ⟨⟨rfl,nle,trivial⟩,⟨⟨rfl,nle,trivial⟩,⟨⟨rfl,nle,trivial⟩,⟨⟨rfl,nle,trivial⟩,⟨⟨rfl,nle,trivial⟩,⟨⟨rfl,nle,trivial⟩,trivial⟩⟩⟩⟩⟩⟩ rfl<|o7 (.agg [(.str [112,111,114,116,115]),(.int .i64 4),(.int .i64 0),(.int .i64 8),(.int .i64 0),(.int .i64 0),(.str [112,111,114,116]),(.bool true)]) rfl ⟨⟨rfl,nle,trivial⟩,⟨⟨rfl,nle,trivial⟩,⟨⟨rfl,nle,trivial⟩,⟨⟨rfl,nle,trivial⟩,⟨⟨rfl,nle,trivial⟩,trivial⟩⟩⟩⟩⟩ rfl<|?_;refine o8 (a1c (j:=5) (as':=[(a1o (⟨[110,97,109,101],2,1,1,0,0,[],false⟩:a3f)),(a1o (⟨[99,111,117,110,116],1,1,1,(-1000),1000,[],false⟩:a3f)),(a1o (⟨[112,111,114,116,115],4,0,8,0,0,[112,111,114,116],true⟩:a3f))]) rfl (fun _ => by decide) ⟨rfl,⟨rfl,⟨rfl,trivial⟩⟩⟩ (.refl _) rfl rfl rfl) ?_
 refine o8 (a1c (j:=6) (as':=[(.int .i64 0)]) rfl (fun _ => by decide) ⟨rfl,trivial⟩ (.refl _) rfl rfl rfl) ?_;refine o7 (.agg [(.str [115,119,105,116,99,104]),(.own 5 0 3),(.own 6 0 1),(.bool true)]) rfl ⟨⟨rfl,nle,trivial⟩,⟨⟨rfl,nle,trivial⟩,⟨⟨rfl,nle,trivial⟩,⟨⟨rfl,nle,trivial⟩,trivial⟩⟩⟩⟩ rfl ?_;refine o8 (a1c (j:=7) (as':=[(a8b (⟨[110,111,116,101],[(⟨[110,97,109,101],2,1,1,0,0,[],false⟩:a3f),(⟨[97,98,111,117,116],4,0,4,0,0,[112,111,114,116],false⟩:a3f)],[],true⟩:b4t)),(a8b (⟨[112,111,114,116],[(⟨[110,97,109,101],2,1,1,0,0,[],false⟩:a3f),(⟨[116,97,103],1,0,1,0,99,[],false⟩:a3f),(⟨[117,112],3,1,1,0,0,[],false⟩:a3f)],[(0:Int)],false⟩:b4t)),(a8b (⟨[115,119,105,116,99,104],[(⟨[110,97,109,101],2,1,1,0,0,[],false⟩:a3f),(⟨[99,111,117,110,116],1,1,1,(-1000),1000,[],false⟩:a3f),(⟨[112,111,114,116,115],4,0,8,0,0,[112,111,114,116],true⟩:a3f)],[(0:Int)],true⟩:b4t))]) rfl (fun _ => by decide) ⟨rfl,⟨rfl,⟨rfl,trivial⟩⟩⟩ (.cons (.agg (.cons (.refl _) (.cons (.refl _) (.cons (.nil _) (.cons (.refl _) .nil))))) (.cons (.refl _) (.cons (.refl _) .nil))) rfl rfl rfl) ?_
 refine o7 (.agg [(.own 7 0 3)]) rfl ⟨⟨rfl,nle,trivial⟩,trivial⟩ rfl<|a1i (x9 (v:=(.agg [(.own 7 0 3)])) (y':=(.agg [(.own 7 0 3)])) rfl rfl rfl trivial ⟨rfl,nle⟩ ⟨⟨rfl,trivial⟩,trivial⟩ rfl)<|dk<|a0d<|?_;obtain rfl:=os hf;exact a1j ⟨nle,trivial⟩ rfl (by decide) (.refl _)

/- spec.l04Default -/
def e4r:a0p :=
 (.seq (.reg (tq 1 (.box 8 (.t 0)) (tm 2 (.c .nil) .done)))
 (.seq (.seq (.reg (tq 4 (.faddr 2 (.t 1)) (tq 5 (.load 1 false (.t 4)) (tq 6 (.bin .eql (.t 5) (.c (.int .i64 0))) .done))))
 (.cond (.t 6) (.seq (.reg (tq 7 (.bslice 3 []) (tm 2 (.t 7) .done)))
 .ret)
 .skip))
 (.seq (.reg (tq 8 (.faddr 1 (.t 1)) (tq 9 (.load 1 false (.t 8)) (tq 10 (.build [(.int .i64 0),(.int .i64 0),(.str [])] [(0,1,(.t 9))]) (tq 3 (.box 3 (.c (.agg [(.int .i64 0),(.int .i64 0),(.str [])]))) (.q ⟨none,none,.store 3 (.t 3) (.t 10)⟩
 .done))))))
 (.seq (.seq (.reg (tq 11 (.faddr 1 (.t 1)) (tq 12 (.load 1 false (.t 11)) (tq 13 (.bin .eql (.t 12) (.c (.int .i64 1))) .done))))
 (.cond (.t 13) (.reg (tq 14 (.faddr 4 (.t 1)) (tq 15 (.load 1 false (.t 14)) (tq 16 (.faddr 5 (.t 1)) (tq 17 (.load 1 false (.t 16)) (tq 18 (.mnmx false (.t 17) (.c (.int .i64 0))) (tq 19 (.mnmx true (.t 15) (.t 18)) (tq 20 (.faddr 1 (.t 3)) (.q ⟨none,none,.store 1 (.t 20) (.t 19)⟩
 .done)))))))))
 .skip))
 (.cut (.seq (.reg (tq 21 (.load 3 true (.t 3)) (tq 22 (.bslice 3 [(.t 21)]) (tm 2 (.t 22) .done))))
 .ret))))))
theorem e4s:a1b Tryz.prog Tryz.f237 = some (e4r.erase,[.mov (.t 2)],23):=by kernel_rfl
def a9n (c_1:a3f):Option (List x8) :=
    if (c_1.Min == 0) then
    some []
    else
    ((if (c_1.Kind == 1) then
    some (if (if 0 < c_1.High then 0 else c_1.High) > c_1.Low then (if 0 < c_1.High then 0 else c_1.High) else c_1.Low)
    else
    some 0:Option Int)).bind fun x_4 =>
    some [(⟨c_1.Kind,x_4,[]⟩:x8)]
theorem b9m (c_1:a3f) (r:(List x8)) (hf:a9n c_1 = some r):y9 Tryz.prog 237 .fresh [(a1o c_1)] (.lst 3 (r.map l9)):=by
 refine y9.of_awp mixed Tryz.func237 e4s nle ?_;rw [a0f];unfold a9n at hf;unfold e4r;refine (show awp Tryz.prog true 0 _ (ofL [(0,(a1o c_1))]) [] _ from ?_);refine sr<|o8 (a1g (j:=0) (c:=(.agg [(.str c_1.Name),(.int .i64 c_1.Kind),(.int .i64 c_1.Min),(.int .i64 c_1.Max),(.int .i64 c_1.Low),(.int .i64 c_1.High),(.str c_1.Ref),(.bool c_1.Strong)])) rfl trivial rfl rfl)<|l7 .nil rfl<|dk<|o6<|sr<|o7 (.ptr 0 0 2) rfl trivial rfl<|o7 (.int .i64 c_1.Min) rfl nle rfl<|o7 (.bool (c_1.Min == 0)) rfl rfl rfl<|dk<|?_
 rcases oi hf with ⟨c2,hf⟩ | ⟨c2,hf⟩
 ·refine a0b rfl c2<|sr<|?_;refine o8 (a1c (j:=1) (as':=[]) rfl (fun _ => by decide) trivial (.refl _) rfl rfl rfl) ?_;refine l7 (.own 1 0 0) rfl<|dk<|a0d<|?_;obtain rfl:=os hf;exact a1j ⟨trivial,trivial⟩ rfl (by decide) (.refl _)
 ·refine a0c rfl (bf c2)<|a0i<|a0h<|sr<|o7 (.ptr 0 0 1) rfl trivial rfl<|o7 (.int .i64 c_1.Kind) rfl nle rfl<|o7 (.agg [(.int .i64 c_1.Kind),(.int .i64 0),(.str [])]) rfl ⟨⟨rfl,nle,trivial⟩,trivial⟩ rfl<|o8 (a1g (j:=1) (c:=(.agg [(.int .i64 0),(.int .i64 0),(.str [])])) rfl trivial rfl rfl)<|a1i (x9 (v:=(.agg [(.int .i64 c_1.Kind),(.int .i64 0),(.str [])])) (y':=(.agg [(.int .i64 c_1.Kind),(.int .i64 0),(.str [])])) rfl rfl rfl trivial ⟨rfl,nle⟩ ⟨⟨rfl,trivial⟩,⟨⟨rfl,trivial⟩,⟨⟨rfl,trivial⟩,trivial⟩⟩⟩ rfl)<|dk<|o6<|?_
  obtain ⟨x_4,hb1,hf⟩:=ob hf
  refine a2v ([(3,(.ptr 0 0 0))],[.box 3 (.agg [(.int .i64 c_1.Kind),(.int .i64 x_4),(.str [])])]) ?_ ?_
  ·refine sr<|o7 (.ptr 0 0 1) rfl trivial rfl<|o7 (.int .i64 c_1.Kind) rfl nle rfl<|o7 (.bool (c_1.Kind == 1)) rfl rfl rfl<|dk<|?_
   rcases oi hb1 with ⟨c6,hb1⟩ | ⟨c6,hb1⟩
   ·refine a0b rfl c6<|a0z<|o7 (.ptr 0 0 4) rfl trivial rfl<|o7 (.int .i64 c_1.Low) rfl nle rfl<|o7 (.ptr 0 0 5) rfl trivial rfl<|o7 (.int .i64 c_1.High) rfl nle rfl<|o7 (.int .i64 (if 0 < c_1.High then 0 else c_1.High)) rfl rfl rfl<|o7 (.int .i64 (if (if 0 < c_1.High then 0 else c_1.High) > c_1.Low then (if 0 < c_1.High then 0 else c_1.High) else c_1.Low)) rfl rfl rfl<|o7 (.ptr 1 0 1) rfl trivial rfl<|a1i (x9 (v:=(.int .i64 (if (if 0 < c_1.High then 0 else c_1.High) > c_1.Low then (if 0 < c_1.High then 0 else c_1.High) else c_1.Low))) (y':=(.agg [(.int .i64 c_1.Kind),(.int .i64 (if (if 0 < c_1.High then 0 else c_1.High) > c_1.Low then (if 0 < c_1.High then 0 else c_1.High) else c_1.Low)),(.str [])])) rfl rfl rfl trivial ⟨rfl,nle⟩ ⟨⟨rfl,trivial⟩,trivial⟩ rfl)<|?_
    refine a0e ?_;obtain rfl:=os hb1;exact ⟨[],[1],_,_,rfl,rfl,⟨.refl _,trivial⟩,(.refl _)⟩
   ·refine a0c rfl (bf c6)<|a0i<|?_;obtain rfl:=os hb1;exact ⟨[],[1],_,_,rfl,rfl,⟨.refl _,trivial⟩,(.refl _)⟩
  ·refine sr<|o7 (.agg [(.int .i64 c_1.Kind),(.int .i64 x_4),(.str [])]) rfl nle rfl<|?_;refine o8 (a1c (j:=1) (as':=[(l9 (⟨c_1.Kind,x_4,[]⟩:x8))]) rfl (fun _ => by decide) ⟨rfl,trivial⟩ (.refl _) rfl rfl rfl) ?_;refine l7 (.own 1 0 1) rfl<|dk<|a0d<|?_;obtain rfl:=os hf;exact a1j ⟨trivial,trivial⟩ rfl (by decide) (.refl _)

/- (*spec.l00Src).chance -/
def d4f:a0p :=
 (.seq (.reg (tm 4 (.c (.bool false)) .done))
 (.seq (.reg (tm 5 (.t 0) (tm 6 (.t 1) (tq 7 (.call 163 [(.t 5),(.t 6)]) (tm 8 (.t 1) (tq 9 (.bin .sub (.t 8) (.c (.int .i64 1))) (tq 10 (.bin .eql (.t 7) (.t 9)) (tm 4 (.t 10) .done))))))))
 .ret))
theorem d8f:a1b Tryz.prog Tryz.f238 = some (d4f.erase,[.mov (.t 4)],11):=by kernel_rfl
def a5p (n_1:Int) (s_2:a1h):Option (Bool × a1h) :=
    (a1z n_1 s_2).bind fun r_3 =>
    some ((r_3.1 == w64 (n_1 - 1)),r_3.2)
theorem b6h (n_1:Int) (s_2:a1h) (r:(Bool × a1h)) (hf:a5p n_1 s_2 = some r):a0j Tryz.prog true 238 [(.ptr 0 0 0),(.int .i64 n_1)] [.box 3 (.agg [(.lst 1 (s_2.Code.map a0q)),(.int .i64 s_2.At),(.int .i64 s_2.Seed)])] (.bool r.1) [.box 3 (.agg [(.lst 1 (r.2.Code.map a0q)),(.int .i64 r.2.At),(.int .i64 r.2.Seed)])]:=by
 refine a0j.of_awp mixed Tryz.func238 d8f nle ?_;rw [a0f];unfold a5p at hf;unfold d4f;refine (show awp Tryz.prog true 1 _ (ofL [(0,(.ptr 0 0 0)),(1,(.int .i64 n_1))]) [.box 3 (.agg [(.lst 1 (s_2.Code.map a0q)),(.int .i64 s_2.At),(.int .i64 s_2.Seed)])] _ from ?_);refine sr<|l7 (.bool false) rfl<|dk<|sr<|?_
 obtain ⟨r_3,er4,hf⟩:=ob hf
 refine l7 (.ptr 0 0 0) rfl<|l7 (.int .i64 n_1) rfl<|?_;refine o8 (a3e (v:=(.int .i64 r_3.1)) (h2:=[.box 3 (.agg [(.lst 1 (r_3.2.Code.map a0q)),(.int .i64 r_3.2.At),(.int .i64 r_3.2.Seed)])]) [] [0] (fun _ => rfl) (a4v _ _ _ er4) rfl (.refl _) (.refl _) rfl rfl) ?_;refine l7 (.int .i64 n_1) rfl<|o7 (.int .i64 (w64 (n_1 - 1))) rfl rfl rfl<|o7 (.bool (r_3.1 == w64 (n_1 - 1))) rfl rfl rfl<|l7 (.bool (r_3.1 == w64 (n_1 - 1))) rfl<|dk<|a0d<|?_;obtain rfl:=os hf;exact a3a [] [0] rfl ⟨trivial,trivial⟩ rfl (.refl _) (.refl _)

/- (*spec.l00Src).row -/
def d4g:a0p :=
 (.seq (.reg (tq 4 (.box 2 (.c (.agg [(.int .i64 0),.nil]))) .done))
 (.seq (.reg (tq 9 (.call 10 []) (tq 10 (.field 0 1 false (.t 9)) (tm 11 (.t 1) (tq 12 (.iaddr 4 (.t 10) (.t 11)) (tq 13 (.load 4 true (.t 12)) (tq 5 (.box 4 (.c (.agg [(.str []),.nil,.nil,(.bool false)]))) (.q ⟨none,none,.store 4 (.t 5) (.t 13)⟩
 .done))))))))
 (.seq (.reg (tm 14 (.t 0) (tq 15 (.call 163 [(.t 14),(.c (.int .i64 9))]) (tq 16 (.bin .add (.c (.int .i64 1)) (.t 15)) (tq 17 (.build [(.int .i64 0),.nil] [(0,1,(.t 16))]) (tq 6 (.box 2 (.c (.agg [(.int .i64 0),.nil]))) (.q ⟨none,none,.store 2 (.t 6) (.t 17)⟩
 .done)))))))
 (.seq (.seq (.reg (tm 7 (.c (.int .i64 0)) .done))
 (.block 0 (.loop (.seq (.seq (.reg (tm 18 (.t 7) (tq 19 (.faddr 1 (.t 5)) (tq 20 (.load 1 false (.t 19)) (tq 21 (.len (.t 20)) (tq 22 (.bin .lss (.t 18) (.t 21)) .done))))))
 (.cond (.t 22) .skip
 (.exit 0)))
 (.seq (.block 1 (.seq (.reg (tq 25 (.faddr 1 (.t 5)) (tq 26 (.load 1 false (.t 25)) (tm 27 (.t 7) (tq 28 (.iaddr 8 (.t 26) (.t 27)) (tq 29 (.load 8 true (.t 28)) (tq 30 (.call 237 [(.t 29)]) (tm 8 (.t 30) .done))))))))
 (.seq (.seq (.reg (tm 31 (.t 0) (tq 32 (.call 238 [(.t 31),(.c (.int .i64 2))]) .done)))
 (.cond (.t 32) (.reg (tm 33 (.t 0) (tq 34 (.faddr 1 (.t 5)) (tq 35 (.load 1 false (.t 34)) (tm 36 (.t 7) (tq 37 (.iaddr 8 (.t 35) (.t 36)) (tq 38 (.faddr 1 (.t 37)) (tq 39 (.load 1 false (.t 38)) (tq 40 (.call 226 [(.t 33),(.t 39)]) (tq 41 (.bslice 3 [(.t 40)]) (tm 8 (.t 41) .done)))))))))))
 .skip))
 (.cut (.reg (tq 42 (.faddr 1 (.t 6)) (tq 43 (.load 1 false (.t 42)) (tm 44 (.t 8) (tq 45 (.bslice 1 [(.t 44)]) (tq 46 (.append 1 24 (.t 43) (.t 45)) (tq 47 (.faddr 1 (.t 6)) (.q ⟨none,none,.store 1 (.t 47) (.t 46)⟩
 .done))))))))))))
 (.reg (tm 23 (.t 7) (tq 24 (.bin .add (.t 23) (.c (.int .i64 1))) (tm 7 (.t 24) .done)))))))))
 (.cut (.seq (.reg (tq 48 (.load 2 true (.t 6)) (.q ⟨none,none,.store 2 (.t 4) (.t 48)⟩
 .done)))
 .ret))))))
theorem d8g:a1b Tryz.prog Tryz.f138 = some (d4g.erase,[.load 2 true (.t 4)],49):=by kernel_rfl
def a3b :List a3f → (List Int) → Int → Int → (List (List x8)) → Option ((List Int) × Int × Int × (List (List x8)))
  | [],x_68,x_69,x_70,x_71 =>
    some (x_68,x_69,x_70,x_71)
  | x_110 :: xs,x_68,x_69,x_70,x_71 =>
    (a9n x_110).bind fun r_113 =>
    (((a5p 2 (⟨x_68,x_69,x_70⟩:a1h)).bind fun r_125 =>
    if r_125.1 then
    (a4x x_110.Kind r_125.2).bind fun r_128 =>
    some (r_128.2.Code,r_128.2.At,r_128.2.Seed,[r_128.1])
    else
    some (r_125.2.Code,r_125.2.At,r_125.2.Seed,r_113):Option ((List Int) × Int × Int × (List x8)))).bind fun p124 =>
    (match p124 with
    | (x_120,x_121,x_122,d_123) =>
    if (x_71 ++ [d_123]).length ≤ 2 ^ 30 then
    a3b xs  x_120 x_121 x_122 (x_71 ++ [d_123])
    else none)

def a9o (table_1:Int) (s_2:a1h):Option (b1r × a1h) :=
    (a9b).bind fun r_3 =>
    if (0:Int) ≤ table_1 ∧ table_1 < (r_3.Tables.length:Int) then
    (r_3.Tables[(0 + table_1.toNat)]?).bind fun x_6 =>
    (a1z 9 s_2).bind fun r_8 =>
    (a3b x_6.Columns r_8.2.Code r_8.2.At r_8.2.Seed []).bind fun p103 =>
    (match p103 with
    | (x_99,x_100,x_101,x_102) =>
    some ((⟨w64 (1 + r_8.1),x_102⟩:b1r),(⟨x_99,x_100,x_101⟩:a1h)))
    else none
theorem b9n (table_1:Int) (s_2:a1h) (r:(b1r × a1h)) (hf:a9o table_1 s_2 = some r):a0j Tryz.prog true 138 [(.ptr 0 0 0),(.int .i64 table_1)] [.box 3 (.agg [(.lst 1 (s_2.Code.map a0q)),(.int .i64 s_2.At),(.int .i64 s_2.Seed)])] (.agg [(.int .i64 r.1.Id),(.own 1 0 r.1.Cells.length)]) [.box 3 (.agg [(.lst 1 (r.2.Code.map a0q)),(.int .i64 r.2.At),(.int .i64 r.2.Seed)]),.row 1 (r.1.Cells.map (a4z 3 l9))]:=by
 refine a0j.of_awp mixed Tryz.func138 d8g nle ?_;rw [a0f];unfold a9o at hf;unfold d4g;refine (show awp Tryz.prog true 1 _ (ofL [(0,(.ptr 0 0 0)),(1,(.int .i64 table_1))]) [.box 3 (.agg [(.lst 1 (s_2.Code.map a0q)),(.int .i64 s_2.At),(.int .i64 s_2.Seed)])] _ from ?_);refine sr<|o8 (a1g (j:=1) (c:=(.agg [(.int .i64 0),.nil])) rfl trivial rfl rfl)<|dk<|sr<|?_
 obtain ⟨r_3,er4,hf⟩:=ob hf
 obtain ⟨g5,hf⟩:=og hf
 obtain ⟨x_6,ex7,hf⟩:=ob hf
 refine o8 (a3j (v:=(.agg [(.own 2 0 r_3.Tables.length)])) (h':=[.row 4 (r_3.Tables.map a8b)]) (b8b _ er4) rfl (.refl _) (by simp only [a2b,a2c,List.length_map,c5t,List.nil_append,List.append_nil,List.cons_append];rfl))<|o7 (.own 2 0 r_3.Tables.length) rfl nle rfl<|l7 (.int .i64 table_1) rfl<|o8 (a2i rfl rfl g5.1 g5.2 rfl rfl)<|o8 (a3r (enc:=a8b) (v:=(a8b x_6)) rfl rfl ex7 nle rfl)<|o8 (a1g (j:=3) (c:=(.agg [(.str []),.nil,.nil,(.bool false)])) rfl trivial rfl rfl)<|a1i (x9 (v:=(.agg [(.str x_6.Name),(.lst 8 (x_6.Columns.map a1o)),(.lst 1 (x_6.Unique.map encI)),(.bool x_6.Root)])) (y':=(.agg [(.str x_6.Name),(.lst 8 (x_6.Columns.map a1o)),(.lst 1 (x_6.Unique.map encI)),(.bool x_6.Root)])) rfl rfl rfl trivial ⟨rfl,nle⟩ ⟨⟨rfl,trivial⟩,⟨⟨rfl,trivial⟩,⟨⟨rfl,trivial⟩,⟨⟨rfl,trivial⟩,trivial⟩⟩⟩⟩ rfl)<|?_
 refine dk<|sr<|?_
 obtain ⟨r_8,er9,hf⟩:=ob hf
 refine l7 (.ptr 0 0 0) rfl ?_;refine o8 (a3e (v:=(.int .i64 r_8.1)) (h2:=[.box 3 (.agg [(.lst 1 (r_8.2.Code.map a0q)),(.int .i64 r_8.2.At),(.int .i64 r_8.2.Seed)]),.box 2 (.agg [(.int .i64 0),.nil]),.row 4 (r_3.Tables.map a8b),.box 4 (.agg [(.str x_6.Name),(.lst 8 (x_6.Columns.map a1o)),(.lst 1 (x_6.Unique.map encI)),(.bool x_6.Root)])]) [] [0] (fun _ => rfl) (a4v _ _ _ er9) rfl (.refl _) (.refl _) rfl rfl) ?_;refine o7 (.int .i64 (w64 (1 + r_8.1))) rfl rfl rfl<|o7 (.agg [(.int .i64 (w64 (1 + r_8.1))),.nil]) rfl ⟨⟨rfl,nle,trivial⟩,trivial⟩ rfl<|o8 (a1g (j:=4) (c:=(.agg [(.int .i64 0),.nil])) rfl trivial rfl rfl)<|a1i (x9 (v:=(.agg [(.int .i64 (w64 (1 + r_8.1))),.nil])) (y':=(.agg [(.int .i64 (w64 (1 + r_8.1))),.nil])) rfl rfl rfl trivial ⟨rfl,nle⟩ ⟨⟨rfl,trivial⟩,⟨⟨rfl,trivial⟩,trivial⟩⟩ rfl)<|?_
 refine dk<|o6<|sr<|l7 (.int .i64 0) rfl<|dk<|?_
 obtain ⟨p103,hb1,hf⟩:=ob hf
 refine a2v ([(4,(.ptr 1 0 0)),(6,(.ptr 2 0 0))],[.box 3 (.agg [(.lst 1 (p103.1.map a0q)),(.int .i64 p103.2.1),(.int .i64 p103.2.2.1)]),.box 2 (.agg [(.int .i64 0),.nil]),.box 2 (.agg [(.int .i64 (w64 (1 + r_8.1))),(.own 3 0 p103.2.2.2.length)]),.row 1 (p103.2.2.2.map (a4z 3 l9))]) ?_ ?_
 ·refine a1v (X:={q:(Nat × (List Int) × Int × Int × (List (List x8))) // a3b (x_6.Columns.drop q.1) q.2.1 q.2.2.1 q.2.2.2.1 q.2.2.2.2 = some p103}) (fun q => ([(0,(.ptr 0 0 0)),(4,(.ptr 1 0 0)),(5,(.ptr 2 0 0)),(6,(.ptr 3 0 0)),(7,(.int .i64 (q.1.1:Int)))],[.box 3 (.agg [(.lst 1 (q.1.2.1.map a0q)),(.int .i64 q.1.2.2.1),(.int .i64 q.1.2.2.2.1)]),.box 2 (.agg [(.int .i64 0),.nil]),.box 4 (.agg [(.str x_6.Name),(.lst 8 (x_6.Columns.map a1o)),(.lst 1 (x_6.Unique.map encI)),(.bool x_6.Root)]),.box 2 (.agg [(.int .i64 (w64 (1 + r_8.1))),(.own 4 0 q.1.2.2.2.2.length)]),.row 1 (q.1.2.2.2.2.map (a4z 3 l9))])) (fun q => x_6.Columns.length - q.1.1) ⟨(0,r_8.2.Code,r_8.2.At,r_8.2.Seed,[]),hb1⟩ ⟨[.nilC 4 1 1],[0,1,3,4,5],_,_,rfl,rfl,⟨.refl _,⟨.refl _,⟨.refl _,⟨.refl _,⟨.refl _,trivial⟩⟩⟩⟩⟩,(.refl _)⟩ ?_
  rintro ⟨⟨i_67,x_68,x_69,x_70,x_71⟩,hc1⟩
  have hc1:a3b (x_6.Columns.drop i_67) x_68 x_69 x_70 x_71 = some p103:=hc1
  refine (show awp Tryz.prog true 1 _ (ofL [(0,(.ptr 0 0 0)),(4,(.ptr 1 0 0)),(5,(.ptr 2 0 0)),(6,(.ptr 3 0 0)),(7,(.int .i64 (i_67:Int)))]) [.box 3 (.agg [(.lst 1 (x_68.map a0q)),(.int .i64 x_69),(.int .i64 x_70)]),.box 2 (.agg [(.int .i64 0),.nil]),.box 4 (.agg [(.str x_6.Name),(.lst 8 (x_6.Columns.map a1o)),(.lst 1 (x_6.Unique.map encI)),(.bool x_6.Root)]),.box 2 (.agg [(.int .i64 (w64 (1 + r_8.1))),(.own 4 0 x_71.length)]),.row 1 (x_71.map (a4z 3 l9))] _ from ?_)
  rcases a7j x_6.Columns i_67 with ⟨hie106,hd109⟩ | ⟨hlt104,x_110,hx105,hd109⟩
  ·rw [hd109,a3b.eq_1] at hc1
   have hq108:=dlf hie106
   refine o6<|sr<|l7 (.int .i64 (i_67:Int)) rfl<|o7 (.ptr 2 0 1) rfl trivial rfl<|o7 (.lst 8 (x_6.Columns.map a1o)) rfl nle rfl<|a1n (a3d (enc:=a1o) rfl) fun hl111 => o7 (.bool (decide ((i_67:Int) < (x_6.Columns.length:Int)))) rfl rfl rfl<|dk<|a0c rfl hq108<|a4b<|a4a<|a2w<|a3z<|?_;obtain rfl:=os hc1;exact ⟨[],[0,1,3,4],_,_,rfl,rfl,⟨.refl _,⟨.refl _,trivial⟩⟩,(.refl _)⟩
  ·rw [hd109,a3b.eq_2] at hc1
   have hq108:=dlt hlt104
   refine o6<|sr<|l7 (.int .i64 (i_67:Int)) rfl<|o7 (.ptr 2 0 1) rfl trivial rfl<|o7 (.lst 8 (x_6.Columns.map a1o)) rfl nle rfl<|a1n (a3d (enc:=a1o) rfl) fun hl112 => o7 (.bool (decide ((i_67:Int) < (x_6.Columns.length:Int)))) rfl rfl rfl<|dk<|a0b rfl hq108<|a0i<|a0h<|o6<|a3s<|sr<|?_
   obtain ⟨r_113,er114,hc1⟩:=ob hc1
   refine o7 (.ptr 2 0 1) rfl trivial rfl<|o7 (.lst 8 (x_6.Columns.map a1o)) rfl nle rfl<|l7 (.int .i64 (i_67:Int)) rfl<|o8 (a3o (enc:=a1o) rfl rfl hx105)<|o7 (a1o x_110) rfl nle rfl<|o8 (a3j (v:=(.own 5 0 r_113.length)) (h':=[.row 3 (r_113.map l9)]) (b9m _ _ er114) rfl (.refl _) (by simp only [a2b,a2c,List.length_map,List.nil_append,List.append_nil,List.cons_append];rfl))<|l7 (.own 5 0 r_113.length) rfl<|dk<|o6<|?_
   obtain ⟨p124,hb2,hc1⟩:=ob hc1
   refine a2v ([(0,(.ptr 0 0 0)),(4,(.ptr 1 0 0)),(5,(.ptr 2 0 0)),(6,(.ptr 3 0 0)),(7,(.int .i64 (i_67:Int))),(8,(.own 4 0 p124.2.2.2.length))],[.box 3 (.agg [(.lst 1 (p124.1.map a0q)),(.int .i64 p124.2.1),(.int .i64 p124.2.2.1)]),.box 2 (.agg [(.int .i64 0),.nil]),.box 4 (.agg [(.str x_6.Name),(.lst 8 (x_6.Columns.map a1o)),(.lst 1 (x_6.Unique.map encI)),(.bool x_6.Root)]),.box 2 (.agg [(.int .i64 (w64 (1 + r_8.1))),(.own 5 0 x_71.length)]),.row 3 (p124.2.2.2.map l9),.row 1 (x_71.map (a4z 3 l9))]) ?_ ?_
   ·refine sr<|?_
    obtain ⟨r_125,er126,hb2⟩:=ob hb2
    refine l7 (.ptr 0 0 0) rfl ?_;refine o8 (a3e (v:=(.bool r_125.1)) (h2:=[.box 3 (.agg [(.lst 1 (r_125.2.Code.map a0q)),(.int .i64 r_125.2.At),(.int .i64 r_125.2.Seed)]),.box 2 (.agg [(.int .i64 0),.nil]),.box 4 (.agg [(.str x_6.Name),(.lst 8 (x_6.Columns.map a1o)),(.lst 1 (x_6.Unique.map encI)),(.bool x_6.Root)]),.box 2 (.agg [(.int .i64 (w64 (1 + r_8.1))),(.own 4 0 x_71.length)]),.row 1 (x_71.map (a4z 3 l9)),.row 3 (r_113.map l9)]) [] [0] (fun _ => rfl) (b6h _ _ _ er126) rfl (.refl _) (.refl _) rfl rfl) ?_;refine dk<|?_
    rcases oi hb2 with ⟨c127,hb2⟩ | ⟨c127,hb2⟩
    ·refine a0b rfl c127<|a0z<|?_
     obtain ⟨r_128,er129,hb2⟩:=ob hb2
     refine l7 (.ptr 0 0 0) rfl<|o7 (.ptr 2 0 1) rfl trivial rfl<|o7 (.lst 8 (x_6.Columns.map a1o)) rfl nle rfl<|l7 (.int .i64 (i_67:Int)) rfl<|o8 (a3o (enc:=a1o) rfl rfl hx105)<|o7 (.iptr (a1o x_110) 1) rfl trivial rfl<|o7 (.int .i64 x_110.Kind) rfl nle rfl<|?_;refine o8 (a3e (v:=(l9 r_128.1)) (h2:=[.box 3 (.agg [(.lst 1 (r_128.2.Code.map a0q)),(.int .i64 r_128.2.At),(.int .i64 r_128.2.Seed)]),.box 2 (.agg [(.int .i64 0),.nil]),.box 4 (.agg [(.str x_6.Name),(.lst 8 (x_6.Columns.map a1o)),(.lst 1 (x_6.Unique.map encI)),(.bool x_6.Root)]),.box 2 (.agg [(.int .i64 (w64 (1 + r_8.1))),(.own 4 0 x_71.length)]),.row 1 (x_71.map (a4z 3 l9)),.row 3 (r_113.map l9)]) [] [0] (fun _ => rfl) (b2z _ _ _ er129) rfl (.refl _) (.refl _) rfl rfl) ?_
     refine o8 (a1c (j:=6) (as':=[(l9 r_128.1)]) rfl (fun _ => by decide) ⟨rfl,trivial⟩ (.refl _) rfl rfl rfl) ?_;refine l7 (.own 6 0 1) rfl<|a0e<|?_;obtain rfl:=os hb2;exact ⟨[],[0,1,2,3,6,4],_,_,rfl,rfl,⟨.refl _,⟨.refl _,⟨.refl _,⟨.refl _,⟨.refl _,⟨.of_eq (congrArg (AV.own _ 0) (by simp)),trivial⟩⟩⟩⟩⟩⟩,(.refl _)⟩
    ·refine a0c rfl (bf c127)<|a0i<|?_;obtain rfl:=os hb2;exact ⟨[],[0,1,2,3,5,4],_,_,rfl,rfl,⟨.refl _,⟨.refl _,⟨.refl _,⟨.refl _,⟨.refl _,⟨.refl _,trivial⟩⟩⟩⟩⟩⟩,(.refl _)⟩
   ·obtain ⟨x_120,x_121,x_122,d_123⟩:=p124
    refine a0z ?_
    obtain ⟨g130,hc1⟩:=og hc1
    refine o7 (.ptr 3 0 1) rfl trivial rfl<|o7 (.own 5 0 x_71.length) rfl nle rfl<|l7 (.own 4 0 d_123.length) rfl<|?_;refine o8 (a1c (j:=6) (as':=[(.lst 3 (d_123.map l9))]) rfl (fun _ => by decide) ⟨rfl,trivial⟩ (.cons (.of_eq (congrArg (AV.lst _) (tk (enc:=l9) d_123))) .nil) rfl rfl rfl) ?_
    refine o8 (a2a (j:=7) (L:=((x_71 ++ [d_123]).map (a4z 3 l9))) (len:=(x_71 ++ [d_123]).length) rfl true rfl rfl (fun h => Bool.noConfusion h) (fun _ _ h => (b7c (show AV.own _ _ _ = AV.lst _ _ from h)).elim) (by decide) (c5s (enc:=(a4z 3 l9)) x_71 [d_123] _ (by rfl)) (by simp <;> omega) g130 rfl rfl) ?_
    refine o7 (.ptr 3 0 1) rfl trivial rfl<|a1i (x9 (v:=(.own 7 0 ((x_71 ++ [d_123]).length))) (y':=(.agg [(.int .i64 (w64 (1 + r_8.1))),(.own 7 0 ((x_71 ++ [d_123]).length))])) rfl rfl rfl trivial ⟨rfl,nle⟩ ⟨⟨rfl,trivial⟩,trivial⟩ rfl)<|a0e<|a3l<|a0h<|a0z<|l7 (.int .i64 (i_67:Int)) rfl<|o7 (.int .i64 (w64 ((i_67:Int) + 1))) rfl rfl rfl<|l7 (.int .i64 (w64 ((i_67:Int) + 1))) rfl<|a0e<|?_;exact a2p ⟨((i_67 + 1),x_120,x_121,x_122,x_71 ++ [d_123]),hc1⟩ (mul hlt104) ⟨[],[0,1,2,3,7],_,_,rfl,rfl,⟨.refl _,⟨.refl _,⟨.refl _,⟨.refl _,⟨.of_eq (congrArg (AV.int _) (a3h hlt104 hl112)),trivial⟩⟩⟩⟩⟩,(.refl _)⟩
 ·obtain ⟨x_99,x_100,x_101,x_102⟩:=p103
  refine sr<|o7 (.agg [(.int .i64 (w64 (1 + r_8.1))),(.own 3 0 x_102.length)]) rfl nle rfl<|a1i (x9 (v:=(.agg [(.int .i64 (w64 (1 + r_8.1))),(.own 3 0 x_102.length)])) (y':=(.agg [(.int .i64 (w64 (1 + r_8.1))),(.own 3 0 x_102.length)])) rfl rfl rfl trivial ⟨rfl,nle⟩ ⟨⟨rfl,trivial⟩,⟨⟨rfl,trivial⟩,trivial⟩⟩ rfl)<|dk<|a0d<|?_;obtain rfl:=os hf;exact a3a [] [0,3] rfl ⟨nle,trivial⟩ rfl (.refl _) (.refl _)

/- spec.RowDrawn -/
def c56:a0p :=
 (.seq (.reg (tq 4 (.box 2 (.c (.agg [(.int .i64 0),.nil]))) .done))
 (.seq (.reg (tm 5 (.t 0) (tq 6 (.call 72 [(.t 5)]) (tm 7 (.t 1) (tq 8 (.call 138 [(.t 6),(.t 7)]) (.q ⟨none,none,.store 2 (.t 4) (.t 8)⟩
 .done))))))
 .ret))
theorem e6x:a1b Tryz.prog Tryz.f56 = some (c56.erase,[.load 2 true (.t 4)],9):=by kernel_rfl
def a9g (code_1:(List Int)) (table_2:Int):Option b1r :=
    (a4l code_1).bind fun r_3 =>
    (a9o table_2 r_3).bind fun r_5 =>
    some r_5.1
theorem c2o (code_1:(List Int)) (table_2:Int) (r:b1r) (hf:a9g code_1 table_2 = some r):y9 Tryz.prog 56 .fresh [(.lst 1 (code_1.map a0q)),(.int .i64 table_2)] (b1i r):=by
 refine y9.of_awp mixed Tryz.func56 e6x nle ?_;rw [a0f];unfold a9g at hf;unfold c56;refine (show awp Tryz.prog true 0 _ (ofL [(0,(.lst 1 (code_1.map a0q))),(1,(.int .i64 table_2))]) [] _ from ?_);refine sr<|o8 (a1g (j:=0) (c:=(.agg [(.int .i64 0),.nil])) rfl trivial rfl rfl)<|dk<|sr<|?_
 obtain ⟨r_3,er4,hf⟩:=ob hf
 obtain ⟨r_5,er6,hf⟩:=ob hf
 refine l7 (.lst 1 (code_1.map a0q)) rfl ?_;refine o8 (a3e (v:=(.ptr 1 0 0)) (h2:=[.box 2 (.agg [(.int .i64 0),.nil]),.box 3 (.agg [(.lst 1 (r_3.Code.map a0q)),(.int .i64 r_3.At),(.int .i64 r_3.Seed)])]) [] [] (fun _ => rfl) (b4c _ _ er4) rfl (.refl _) (.refl _) rfl rfl) ?_;refine l7 (.int .i64 table_2) rfl ?_;refine o8 (a3e (v:=(.agg [(.int .i64 r_5.1.Id),(.own 2 0 r_5.1.Cells.length)])) (h2:=[.box 2 (.agg [(.int .i64 0),.nil]),.box 3 (.agg [(.lst 1 (r_5.2.Code.map a0q)),(.int .i64 r_5.2.At),(.int .i64 r_5.2.Seed)]),.row 1 (r_5.1.Cells.map (a4z 3 l9))]) [] [1] (fun _ => rfl) (b9n _ _ _ er6) rfl (.refl _) (.refl _) rfl rfl) ?_;refine a1i (x9 (v:=(.agg [(.int .i64 r_5.1.Id),(.own 2 0 r_5.1.Cells.length)])) (y':=(.agg [(.int .i64 r_5.1.Id),(.own 2 0 r_5.1.Cells.length)])) rfl rfl rfl trivial ⟨rfl,nle⟩ ⟨⟨rfl,trivial⟩,⟨⟨rfl,trivial⟩,trivial⟩⟩ rfl) ?_
 refine dk<|a0d<|?_;obtain rfl:=os hf;exact a1j ⟨nle,trivial⟩ rfl (by decide) (.agg (.cons (.refl _) (.cons (.of_eq (congrArg (AV.lst _) (tk (enc:=(a4z 3 l9)) r_5.1.Cells))) .nil)))

/- impl.isList[string] -/
def c96:a0p :=
 (.seq (.reg (tm 2 (.c (.bool false)) .done))
 (.seq (.reg (tm 3 (.t 0) (tq 4 (.len (.t 3)) (tq 5 (.bin .leq (.t 4) (.c (.int .i64 4096))) (tm 2 (.t 5) .done)))))
 .ret))
theorem e6y:a1b Tryz.prog Tryz.f96 = some (c96.erase,[.mov (.t 2)],6):=by kernel_rfl
def a7u (list_1:(List Str)):Option Bool :=
    some (decide ((list_1.length:Int) ≤ 4096))
theorem b6i (list_1:(List Str)) (r:Bool) (hf:a7u list_1 = some r):y9 Tryz.prog 96 .flat [(.lst 1 (list_1.map AV.str))] (.bool r):=by
  refine y9.of_awp mixed Tryz.func96 e6y nle ?_
  rw [a0f]
  unfold a7u at hf
  unfold c96
  refine (show awp Tryz.prog false 0 _ (ofL [(0,(.lst 1 (list_1.map AV.str)))]) [] _ from ?_)
  refine o6 ?_
  refine a0z ?_
  refine o8 (a2z (.bool false) rfl) ?_
  refine a0e ?_
  refine a0h ?_
  refine o6 ?_
  refine a0z ?_
  refine o8 (a2z (.lst 1 (list_1.map AV.str)) rfl) ?_
  refine a1n (a3d (enc:=AV.str) rfl) fun hl2 => ?_
  refine o8 (o_q (.bool (decide ((list_1.length:Int) ≤ 4096))) rfl rfl rfl) ?_
  refine o8 (a2z (.bool (decide ((list_1.length:Int) ≤ 4096))) rfl) ?_
  refine a0e ?_
  refine a0h ?_
  refine a0d ?_
  obtain rfl:=os hf
  exact a0m ⟨trivial,trivial⟩ rfl (.refl _)

/- slices.IndexFunc[[]string,string] -/
def e4t:a0p :=
 (.seq (.reg (tm 4 (.c (.int .i64 0)) .done))
 (.seq (.seq (.reg (tm 6 (.t 0) (tq 7 (.len (.t 6)) (tm 8 (.c (.int .i64 0)) .done))))
 (.block 0 (.loop (.seq (.reg (tq 9 (.bin .lss (.t 8) (.t 7)) .done))
 (.seq (.cond (.t 9) .skip
 (.exit 0))
 (.seq (.block 1 (.seq (.reg (tm 10 (.t 8) (tm 5 (.t 10) .done)))
 (.seq (.reg (tm 11 (.t 1) (tm 12 (.t 0) (tm 13 (.t 5) (tq 14 (.iaddr 1 (.t 12) (.t 13)) (tq 15 (.load 1 false (.t 14)) (tq 16 (.calv (.t 11) [(.t 15)]) .done)))))))
 (.cond (.t 16) (.seq (.reg (tm 17 (.t 5) (tm 4 (.t 17) .done)))
 .ret)
 .skip))))
 (.reg (tq 18 (.bin .add (.t 8) (.c (.int .i64 1))) (tm 8 (.t 18) .done)))))))))
 (.cut (.seq (.reg (tq 4 (.mov (.c (.int .i64 (-1)))) .done))
 .ret))))
theorem e4u:a1b Tryz.prog Tryz.f284 = some (e4t.erase,[.mov (.t 4)],19):=by kernel_rfl
def a1e (f_2:(Str → Option Bool)):List Str → Nat → Option (Fl Int Unit)
  | [],s8_17 =>
    some (.go ())
  | x_31 :: xs,s8_17 =>
    (f_2 x_31).bind fun r_32 =>
    if r_32 then
    some (.ret (s8_17:Int))
    else
    a1e f_2 xs (s8_17 + 1)

def a3i (s_1:(List Str)) (f_2:(Str → Option Bool)):Option Int :=
    (a1e f_2 s_1 0).bind fun q => (match q with
    | .ret r => some r
    | .go _ =>
    some (-1))
theorem b0o (s_1:(List Str)) (f_2:(Str → Option Bool)) (r:Int) (hf:a3i s_1 f_2 = some r) (kf_f_2:Nat) (cf_f_2:List AV) (okf_f_2:c8n Tryz.prog kf_f_2 = true) (hcf_f_2:∀ h p,a4d h p cf_f_2 = some cf_f_2) (hrf_f_2:∀ f,a6w f cf_f_2 = cf_f_2) (hpf_f_2:∀ a0 r,f_2 a0 = some r → y9 Tryz.prog kf_f_2 .flat ([(.str a0)] ++ cf_f_2) (.bool r)):y9 Tryz.prog 284 .flat [(.lst 1 (s_1.map AV.str)),(.fn kf_f_2 cf_f_2)] (.int .i64 r):=by
 refine y9.of_awp mixed Tryz.func284 e4u nle ?_;rw [a0f];unfold a3i at hf;unfold e4t;refine (show awp Tryz.prog false 0 _ (ofL [(0,(.lst 1 (s_1.map AV.str))),(1,(.fn kf_f_2 cf_f_2))]) [] _ from ?_);refine sr<|l7 (.int .i64 0) rfl<|dk<|o6<|sr<|l7 (.lst 1 (s_1.map AV.str)) rfl<|a1n (a3d (enc:=AV.str) rfl) fun hl3 => l7 (.int .i64 0) rfl<|dk<|?_
 obtain ⟨p24,hb1,hf⟩:=ob hf
 refine a4k (X:={q:Unit // p24 = .go q}) (fun q => ([],[])) ?_ ?_
 ·refine a1v (X:={q:Nat // a1e f_2 (s_1.drop q) q = some p24}) (fun q => ([(0,(.lst 1 (s_1.map AV.str))),(1,(.fn kf_f_2 cf_f_2)),(7,(.int .i64 (s_1.length:Int))),(8,(.int .i64 (q.1:Int)))],[])) (fun q => s_1.length - q.1) ⟨0,hb1⟩ ⟨[],[],_,_,rfl,rfl,⟨.refl _,⟨.of_eq (congrArg (AV.fn _) (hrf_f_2 _)),⟨.refl _,⟨.refl _,trivial⟩⟩⟩⟩,(.refl _)⟩ ?_
  rintro ⟨s8_17,hc1⟩
  have hc1:a1e f_2 (s_1.drop s8_17) s8_17 = some p24:=hc1
  refine (show awp Tryz.prog false 0 _ (ofL [(0,(.lst 1 (s_1.map AV.str))),(1,(.fn kf_f_2 cf_f_2)),(7,(.int .i64 (s_1.length:Int))),(8,(.int .i64 (s8_17:Int)))]) [] _ from ?_)
  rcases a7j s_1 s8_17 with ⟨hie27,hd30⟩ | ⟨hlt25,x_31,hx26,hd30⟩
  ·rw [hd30,a1e.eq_1] at hc1
   have hq29:=dlf hie27
   refine sr<|o7 (.bool (decide ((s8_17:Int) < (s_1.length:Int)))) rfl rfl rfl<|dk<|o6<|a0c rfl hq29<|a4b<|a4a<|a2w<|a3z<|?_;obtain rfl:=os hc1;exact a5z ⟨_,rfl⟩ ⟨[],[],_,_,rfl,rfl,trivial,(.refl _)⟩
  ·rw [hd30,a1e.eq_2] at hc1
   have hq29:=dlt hlt25
   refine sr<|o7 (.bool (decide ((s8_17:Int) < (s_1.length:Int)))) rfl rfl rfl<|dk<|o6<|a0b rfl hq29<|a0i<|a0h<|o6<|a3s<|sr<|l7 (.int .i64 (s8_17:Int)) rfl<|l7 (.int .i64 (s8_17:Int)) rfl<|dk<|sr<|?_
   obtain ⟨r_32,er33,hc1⟩:=ob hc1
   refine l7 (.fn kf_f_2 cf_f_2) rfl<|l7 (.lst 1 (s_1.map AV.str)) rfl<|l7 (.int .i64 (s8_17:Int)) rfl<|o8 (a3o (enc:=AV.str) rfl rfl hx26)<|o7 (.str x_31) rfl ⟨rfl,rfl⟩ rfl<|o8 (d3m (v:=(.bool r_32)) rfl okf_f_2 hcf_f_2 (hpf_f_2 _ _ er33) rfl (.refl _) rfl)<|dk<|?_
   rcases oi hc1 with ⟨c34,hc1⟩ | ⟨c34,hc1⟩
   ·refine a0b rfl c34<|sr<|l7 (.int .i64 (s8_17:Int)) rfl<|l7 (.int .i64 (s8_17:Int)) rfl<|dk<|a0d<|?_;obtain rfl:=os hc1;obtain rfl:=os hf;exact a0m ⟨trivial,trivial⟩ rfl (.refl _)
   ·refine a0c rfl (bf c34)<|a0i<|a3l<|a0h<|a0z<|o7 (.int .i64 (w64 ((s8_17:Int) + 1))) rfl rfl rfl<|l7 (.int .i64 (w64 ((s8_17:Int) + 1))) rfl<|a0e<|?_;exact a2p ⟨(s8_17 + 1),hc1⟩ (mul hlt25) ⟨[],[],_,_,rfl,rfl,⟨.refl _,⟨.of_eq (congrArg (AV.fn _) (hrf_f_2 _)),⟨.refl _,⟨.of_eq (congrArg (AV.int _) (a3h hlt25 hl3)),trivial⟩⟩⟩⟩,(.refl _)⟩
 ·rintro ⟨_,rfl⟩
  refine sr<|l7 (.int .i64 (-1)) rfl<|dk<|a0d<|?_;obtain rfl:=os hf;exact a0m ⟨trivial,trivial⟩ rfl (.refl _)

/- slices.ContainsFunc[[]string,string] -/
def c194:a0p :=
 (.seq (.reg (tm 4 (.c (.bool false)) .done))
 (.seq (.reg (tm 5 (.t 0) (tm 6 (.t 1) (tq 7 (.call 284 [(.t 5),(.t 6)]) (tq 8 (.bin .geq (.t 7) (.c (.int .i64 0))) (tm 4 (.t 8) .done))))))
 .ret))
theorem e4v:a1b Tryz.prog Tryz.f194 = some (c194.erase,[.mov (.t 4)],9):=by kernel_rfl
def a2q (s_1:(List Str)) (f_2:(Str → Option Bool)):Option Bool :=
    (a3i s_1 f_2).bind fun r_3 =>
    some (decide (r_3 ≥ 0))
theorem a9h (s_1:(List Str)) (f_2:(Str → Option Bool)) (r:Bool) (hf:a2q s_1 f_2 = some r) (kf_f_2:Nat) (cf_f_2:List AV) (okf_f_2:c8n Tryz.prog kf_f_2 = true) (hcf_f_2:∀ h p,a4d h p cf_f_2 = some cf_f_2) (hrf_f_2:∀ f,a6w f cf_f_2 = cf_f_2) (hpf_f_2:∀ a0 r,f_2 a0 = some r → y9 Tryz.prog kf_f_2 .flat ([(.str a0)] ++ cf_f_2) (.bool r)):y9 Tryz.prog 194 .flat [(.lst 1 (s_1.map AV.str)),(.fn kf_f_2 cf_f_2)] (.bool r):=by
  refine y9.of_awp mixed Tryz.func194 e4v nle ?_
  rw [a0f]
  unfold a2q at hf
  unfold c194
  refine (show awp Tryz.prog false 0 _ (ofL [(0,(.lst 1 (s_1.map AV.str))),(1,(.fn kf_f_2 cf_f_2))]) [] _ from ?_)
  refine o6 ?_
  refine a0z ?_
  refine o8 (a2z (.bool false) rfl) ?_
  refine a0e ?_
  refine a0h ?_
  refine o6 ?_
  refine a0z ?_
  obtain ⟨r_3,er4,hf⟩:=ob hf
  refine o8 (a2z (.lst 1 (s_1.map AV.str)) rfl) ?_
  refine o8 (a2z (.fn kf_f_2 cf_f_2) rfl) ?_
  refine o8 (a1f (b0o _ _ _ er4 kf_f_2 cf_f_2 okf_f_2 hcf_f_2 hrf_f_2 hpf_f_2) (b9c rfl (b9c (d7e hcf_f_2) rfl)) (.refl _) rfl) ?_
  refine o8 (o_q (.bool (decide (r_3 ≥ 0))) rfl rfl rfl) ?_
  refine o8 (a2z (.bool (decide (r_3 ≥ 0))) rfl) ?_
  refine a0e ?_
  refine a0h ?_
  refine a0d ?_
  obtain rfl:=os hf
  exact a0m ⟨trivial,trivial⟩ rfl (.refl _)

/- impl.isDigit -/
def e4w:a0p :=
 (.seq (.reg (tm 2 (.c (.bool false)) .done))
 (.seq (.reg (tm 3 (.t 0) (tq 4 (.bin .geq (.t 3) (.c (.int .u8 48))) (tm 5 (.t 4) (tg 6 5 true (.mov (.t 0)) (tg 7 5 true (.bin .leq (.t 6) (.c (.int .u8 57))) (tq 8 (.pick (.t 5) (.t 7) (.c (.bool false))) (tm 2 (.t 8) .done))))))))
 .ret))
theorem e4x:a1b Tryz.prog Tryz.f278 = some (e4w.erase,[.mov (.t 2)],9):=by kernel_rfl
def b0p (b_1:Int):Option Bool :=
    if (decide (b_1 ≥ 48)) then
    some (decide (b_1 ≤ 57))
    else
    some false
theorem c4q (b_1:Int) (r:Bool) (hf:b0p b_1 = some r):y9 Tryz.prog 278 .flat [(.int .u8 b_1)] (.bool r):=by
 refine y9.of_awp mixed Tryz.func278 e4x nle ?_;rw [a0f];unfold b0p at hf;unfold e4w;refine (show awp Tryz.prog false 0 _ (ofL [(0,(.int .u8 b_1))]) [] _ from ?_);refine sr<|l7 (.bool false) rfl<|dk<|sr<|?_
 rcases oi hf with ⟨c2,hf⟩ | ⟨c2,hf⟩
 ·refine l7 (.int .u8 b_1) rfl<|o7 (.bool (decide (b_1 ≥ 48))) rfl rfl rfl<|l7 (.bool (decide (b_1 ≥ 48))) rfl<|a1k (s:=5) (b:=true) rfl c2<|s_on rfl<|l7 (.int .u8 b_1) rfl<|s_on rfl<|o7 (.bool (decide (b_1 ≤ 57))) rfl rfl rfl<|o7 (.bool (decide (b_1 ≤ 57))) rfl trivial rfl<|l7 (.bool (decide (b_1 ≤ 57))) rfl<|dk<|a0d<|?_;obtain rfl:=os hf;exact a0m ⟨trivial,trivial⟩ rfl (.refl _)
 ·refine l7 (.int .u8 b_1) rfl<|o7 (.bool (decide (b_1 ≥ 48))) rfl rfl rfl<|l7 (.bool (decide (b_1 ≥ 48))) rfl<|a1k (s:=5) (b:=false) rfl (bf c2)<|a0a rfl rfl<|a0a rfl rfl<|o7 (.bool false) rfl trivial rfl<|l7 (.bool false) rfl<|dk<|a0d<|?_;obtain rfl:=os hf;exact a0m ⟨trivial,trivial⟩ rfl (.refl _)

/- impl.NameOK -/
def e4y:a0p :=
 (.seq (.reg (tm 2 (.c (.bool false)) .done))
 (.seq (.seq (.reg (tm 6 (.t 0) (tq 7 (.lenS (.t 6)) (tm 8 (.c (.int .i64 0)) .done))))
 (.block 0 (.loop (.seq (.reg (tq 9 (.bin .lss (.t 8) (.t 7)) .done))
 (.seq (.cond (.t 9) .skip
 (.exit 0))
 (.seq (.block 1 (.seq (.reg (tm 10 (.t 8) (tm 3 (.t 10) .done)))
 (.seq (.reg (tm 11 (.t 0) (tm 12 (.t 3) (tq 13 (.idxs (.t 11) (.t 12)) (tm 4 (.t 13) .done)))))
 (.seq (.reg (tm 14 (.t 4) (tq 15 (.bin .geq (.t 14) (.c (.int .u8 97))) (tm 16 (.t 15) (tg 17 16 true (.mov (.t 4)) (tg 18 16 true (.bin .leq (.t 17) (.c (.int .u8 122))) (tq 19 (.pick (.t 16) (.t 18) (.c (.bool false))) (tm 20 (.t 19) (tg 21 20 false (.mov (.t 4)) (tg 22 20 false (.bin .geq (.t 21) (.c (.int .u8 65))) (tg 23 20 false (.mov (.t 22)) (tg 24 23 true (.mov (.t 4)) (tg 25 23 true (.bin .leq (.t 24) (.c (.int .u8 90))) (tg 26 20 false (.pick (.t 23) (.t 25) (.c (.bool false))) (tq 27 (.pick (.t 20) (.c (.bool true)) (.t 26)) (tm 28 (.t 27) (tg 29 28 false (.mov (.t 4)) (tg 30 28 false (.bin .eql (.t 29) (.c (.int .u8 95))) (tq 31 (.pick (.t 28) (.c (.bool true)) (.t 30)) (tm 5 (.t 31) .done))))))))))))))))))))
 (.cut (.seq (.reg (tm 32 (.t 5) (tq 33 (.not (.t 32)) (tm 34 (.t 33) (tg 35 34 true (.mov (.t 3)) (tg 36 34 true (.bin .eql (.t 35) (.c (.int .i64 0))) (tg 37 34 true (.mov (.t 36)) (tg 38 37 false (.mov (.t 4)) (tg 39 37 false (.call 278 [(.t 38)]) (tg 40 37 false (.not (.t 39)) (tg 41 34 true (.pick (.t 37) (.c (.bool true)) (.t 40)) (tq 42 (.pick (.t 34) (.t 41) (.c (.bool false))) .done))))))))))))
 (.cut (.cond (.t 42) (.seq (.reg (tm 2 (.c (.bool false)) .done))
 .ret)
 .skip))))))))
 (.reg (tq 43 (.bin .add (.t 8) (.c (.int .i64 1))) (tm 8 (.t 43) .done)))))))))
 (.cut (.seq (.reg (tm 44 (.t 0) (tq 45 (.lenS (.t 44)) (tq 46 (.call 81 [(.t 45),(.c (.int .i64 1)),(.c (.int .i64 40))]) (tm 2 (.t 46) .done)))))
 .ret))))
theorem e4z:a1b Tryz.prog Tryz.f186 = some (e4y.erase,[.mov (.t 2)],47):=by kernel_rfl
def a5e :List UInt8 → Nat → Option (Fl Bool Unit)
  | [],s8_28 =>
    some (.go ())
  | x_51 :: xs,s8_28 =>
    ((some ():Option Unit)).bind fun _ =>
    ((if (!(bif (bif (bif (decide ((x_51.toNat:Int) ≥ 97)) then (decide ((x_51.toNat:Int) ≤ 122)) else false) then true else (bif (decide ((x_51.toNat:Int) ≥ 65)) then (decide ((x_51.toNat:Int) ≤ 90)) else false)) then true else ((x_51.toNat:Int) == 95))) then
    if ((s8_28:Int) == 0) then
    some true
    else
    (b0p (x_51.toNat:Int)).bind fun r_61 =>
    some (!r_61)
    else
    some false:Option Bool)).bind fun s42_57 =>
    if s42_57 then
    some (.ret false)
    else
    a5e xs (s8_28 + 1)

def b1v (t_1:Str):Option Bool :=
    (a5e t_1 0).bind fun q => (match q with
    | .ret r => some r
    | .go _ =>
    (a6s (t_1.length:Int) 1 40).bind fun r_65 =>
    some r_65)
theorem c5x (t_1:Str) (r:Bool) (hf:b1v t_1 = some r):y9 Tryz.prog 186 .flat [(.str t_1)] (.bool r):=by
 refine y9.of_awp mixed Tryz.func186 e4z nle ?_;rw [a0f];unfold b1v at hf;unfold e4y;refine (show awp Tryz.prog false 0 _ (ofL [(0,(.str t_1))]) [] _ from ?_);refine sr<|l7 (.bool false) rfl<|dk<|o6<|sr<|l7 (.str t_1) rfl<|a1n (b6a rfl) fun hl2 => l7 (.int .i64 0) rfl<|dk<|?_
 obtain ⟨p44,hb1,hf⟩:=ob hf
 refine a4k (X:={q:Unit // p44 = .go q}) (fun q => ([(0,(.str t_1))],[])) ?_ ?_
 ·refine a1v (X:={q:Nat // a5e (t_1.drop q) q = some p44}) (fun q => ([(0,(.str t_1)),(7,(.int .i64 (t_1.length:Int))),(8,(.int .i64 (q.1:Int)))],[])) (fun q => t_1.length - q.1) ⟨0,hb1⟩ ⟨[],[],_,_,rfl,rfl,⟨.refl _,⟨.refl _,⟨.refl _,trivial⟩⟩⟩,(.refl _)⟩ ?_
  rintro ⟨s8_28,hc1⟩
  have hc1:a5e (t_1.drop s8_28) s8_28 = some p44:=hc1
  refine (show awp Tryz.prog false 0 _ (ofL [(0,(.str t_1)),(7,(.int .i64 (t_1.length:Int))),(8,(.int .i64 (s8_28:Int)))]) [] _ from ?_)
  rcases a7j t_1 s8_28 with ⟨hie47,hd50⟩ | ⟨hlt45,x_51,hx46,hd50⟩
  ·rw [hd50,a5e.eq_1] at hc1
   have hq49:=dlf hie47
   refine sr<|o7 (.bool (decide ((s8_28:Int) < (t_1.length:Int)))) rfl rfl rfl<|dk<|o6<|a0c rfl hq49<|a4b<|a4a<|a2w<|a3z<|?_;obtain rfl:=os hc1;exact a5z ⟨_,rfl⟩ ⟨[],[],_,_,rfl,rfl,⟨.refl _,trivial⟩,(.refl _)⟩
  ·rw [hd50,a5e.eq_2] at hc1
   have hq49:=dlt hlt45
   refine sr<|o7 (.bool (decide ((s8_28:Int) < (t_1.length:Int)))) rfl rfl rfl<|dk<|o6<|a0b rfl hq49<|a0i<|a0h<|o6<|a3s<|sr<|l7 (.int .i64 (s8_28:Int)) rfl<|l7 (.int .i64 (s8_28:Int)) rfl<|dk<|sr<|l7 (.str t_1) rfl<|l7 (.int .i64 (s8_28:Int)) rfl<|o8 (b4s rfl rfl hx46)<|l7 (.int .u8 (x_51.toNat:Int)) rfl<|dk<|o6<|?_
   obtain ⟨p52,hb2,hc1⟩:=ob hc1
   refine a2v ([(0,(.str t_1)),(3,(.int .i64 (s8_28:Int))),(4,(.int .u8 (x_51.toNat:Int))),(5,(.bool (bif (bif (bif (decide ((x_51.toNat:Int) ≥ 97)) then (decide ((x_51.toNat:Int) ≤ 122)) else false) then true else (bif (decide ((x_51.toNat:Int) ≥ 65)) then (decide ((x_51.toNat:Int) ≤ 90)) else false)) then true else ((x_51.toNat:Int) == 95)))),(7,(.int .i64 (t_1.length:Int))),(8,(.int .i64 (s8_28:Int)))],[]) ?_ ?_
   ·refine a0z<|l7 (.int .u8 (x_51.toNat:Int)) rfl<|o7 (.bool (decide ((x_51.toNat:Int) ≥ 97))) rfl rfl rfl<|l7 (.bool (decide ((x_51.toNat:Int) ≥ 97))) rfl<|?_;refine s_g (v:=(decide ((x_51.toNat:Int) ≥ 97))) (.int .u8 (x_51.toNat:Int)) rfl (fun hv => by (try simp only [a0g hv]);exact ⟨rfl,trivial,rfl⟩) ?_;refine s_g (v:=(decide ((x_51.toNat:Int) ≥ 97))) (.bool (decide ((x_51.toNat:Int) ≤ 122))) rfl (fun hv => by (try simp only [a0g hv]);exact ⟨rfl,rfl,rfl⟩) ?_;refine a5a (x:=(decide ((x_51.toNat:Int) ≤ 122))) (y:=false) rfl (fun hv => by (try simp only [a0g hv]);rfl) (fun hv => by (try simp only [a0g hv]);rfl) ?_;refine l7 (.bool (bif (decide ((x_51.toNat:Int) ≥ 97)) then (decide ((x_51.toNat:Int) ≤ 122)) else false)) rfl ?_
    refine s_g (v:=(bif (decide ((x_51.toNat:Int) ≥ 97)) then (decide ((x_51.toNat:Int) ≤ 122)) else false)) (.int .u8 (x_51.toNat:Int)) rfl (fun hv => by (try simp only [a0g hv]);exact ⟨rfl,trivial,rfl⟩) ?_;refine s_g (v:=(bif (decide ((x_51.toNat:Int) ≥ 97)) then (decide ((x_51.toNat:Int) ≤ 122)) else false)) (.bool (decide ((x_51.toNat:Int) ≥ 65))) rfl (fun hv => by (try simp only [a0g hv]);exact ⟨rfl,rfl,rfl⟩) ?_;refine s_g (v:=(bif (decide ((x_51.toNat:Int) ≥ 97)) then (decide ((x_51.toNat:Int) ≤ 122)) else false)) (.bool (decide ((x_51.toNat:Int) ≥ 65))) rfl (fun hv => by (try simp only [a0g hv]);exact ⟨rfl,trivial,rfl⟩) ?_;refine e1y (v1:=(bif (decide ((x_51.toNat:Int) ≥ 97)) then (decide ((x_51.toNat:Int) ≤ 122)) else false)) (b1:=false) (v2:=(decide ((x_51.toNat:Int) ≥ 65))) (.int .u8 (x_51.toNat:Int)) rfl (fun hv hw => by (try simp only [a0g hv,a0g hw]);exact ⟨rfl,trivial,rfl⟩) ?_
    refine e1y (v1:=(bif (decide ((x_51.toNat:Int) ≥ 97)) then (decide ((x_51.toNat:Int) ≤ 122)) else false)) (b1:=false) (v2:=(decide ((x_51.toNat:Int) ≥ 65))) (.bool (decide ((x_51.toNat:Int) ≤ 90))) rfl (fun hv hw => by (try simp only [a0g hv,a0g hw]);exact ⟨rfl,rfl,rfl⟩) ?_;refine e6i (v1:=(bif (decide ((x_51.toNat:Int) ≥ 97)) then (decide ((x_51.toNat:Int) ≤ 122)) else false)) (b1:=false) (v2:=(decide ((x_51.toNat:Int) ≥ 65))) (x:=(decide ((x_51.toNat:Int) ≤ 90))) (y:=false) rfl (fun hv => by (try simp only [a0g hv]);rfl) (fun hv hw => by (try simp only [a0g hv,a0g hw]);rfl) (fun hv hw => by (try simp only [a0g hv,a0g hw]);rfl) ?_;refine a5a (x:=true) (y:=(bif (decide ((x_51.toNat:Int) ≥ 65)) then (decide ((x_51.toNat:Int) ≤ 90)) else false)) rfl (fun hv => by (try simp only [a0g hv]);rfl) (fun hv => by (try simp only [a0g hv]);rfl) ?_
    refine l7 (.bool (bif (bif (decide ((x_51.toNat:Int) ≥ 97)) then (decide ((x_51.toNat:Int) ≤ 122)) else false) then true else (bif (decide ((x_51.toNat:Int) ≥ 65)) then (decide ((x_51.toNat:Int) ≤ 90)) else false))) rfl ?_;refine s_g (v:=(bif (bif (decide ((x_51.toNat:Int) ≥ 97)) then (decide ((x_51.toNat:Int) ≤ 122)) else false) then true else (bif (decide ((x_51.toNat:Int) ≥ 65)) then (decide ((x_51.toNat:Int) ≤ 90)) else false))) (.int .u8 (x_51.toNat:Int)) rfl (fun hv => by (try simp only [a0g hv]);exact ⟨rfl,trivial,rfl⟩) ?_;refine s_g (v:=(bif (bif (decide ((x_51.toNat:Int) ≥ 97)) then (decide ((x_51.toNat:Int) ≤ 122)) else false) then true else (bif (decide ((x_51.toNat:Int) ≥ 65)) then (decide ((x_51.toNat:Int) ≤ 90)) else false))) (.bool ((x_51.toNat:Int) == 95)) rfl (fun hv => by (try simp only [a0g hv]);exact ⟨rfl,rfl,rfl⟩) ?_
    refine a5a (x:=true) (y:=((x_51.toNat:Int) == 95)) rfl (fun hv => by (try simp only [a0g hv]);rfl) (fun hv => by (try simp only [a0g hv]);rfl) ?_;refine l7 (.bool (bif (bif (bif (decide ((x_51.toNat:Int) ≥ 97)) then (decide ((x_51.toNat:Int) ≤ 122)) else false) then true else (bif (decide ((x_51.toNat:Int) ≥ 65)) then (decide ((x_51.toNat:Int) ≤ 90)) else false)) then true else ((x_51.toNat:Int) == 95))) rfl<|a0e<|?_;obtain rfl:=os hb2;exact ⟨[],[],_,_,rfl,rfl,⟨.refl _,⟨.refl _,⟨.refl _,⟨.refl _,⟨.refl _,⟨.refl _,trivial⟩⟩⟩⟩⟩⟩,(.refl _)⟩
   ·refine o6 ?_
    obtain ⟨s42_57,hb2,hc1⟩:=ob hc1
    refine a2v ([(0,(.str t_1)),(7,(.int .i64 (t_1.length:Int))),(8,(.int .i64 (s8_28:Int))),(42,(.bool s42_57))],[]) ?_ ?_
    ·refine a0z ?_
     rcases oi hb2 with ⟨c59,hb2⟩ | ⟨c59,hb2⟩
     ·rcases oi hb2 with ⟨c60,hb2⟩ | ⟨c60,hb2⟩
      ·refine l7 (.bool (bif (bif (bif (decide ((x_51.toNat:Int) ≥ 97)) then (decide ((x_51.toNat:Int) ≤ 122)) else false) then true else (bif (decide ((x_51.toNat:Int) ≥ 65)) then (decide ((x_51.toNat:Int) ≤ 90)) else false)) then true else ((x_51.toNat:Int) == 95))) rfl<|o7 (.bool (!(bif (bif (bif (decide ((x_51.toNat:Int) ≥ 97)) then (decide ((x_51.toNat:Int) ≤ 122)) else false) then true else (bif (decide ((x_51.toNat:Int) ≥ 65)) then (decide ((x_51.toNat:Int) ≤ 90)) else false)) then true else ((x_51.toNat:Int) == 95)))) rfl trivial rfl<|l7 (.bool (!(bif (bif (bif (decide ((x_51.toNat:Int) ≥ 97)) then (decide ((x_51.toNat:Int) ≤ 122)) else false) then true else (bif (decide ((x_51.toNat:Int) ≥ 65)) then (decide ((x_51.toNat:Int) ≤ 90)) else false)) then true else ((x_51.toNat:Int) == 95)))) rfl<|?_
       refine a1k (s:=34) (b:=true) rfl c59<|s_on rfl<|l7 (.int .i64 (s8_28:Int)) rfl<|s_on rfl<|o7 (.bool ((s8_28:Int) == 0)) rfl rfl rfl<|s_on rfl<|l7 (.bool ((s8_28:Int) == 0)) rfl<|a1k (s:=37) (b:=true) rfl c60<|a0a rfl rfl<|a0a rfl rfl<|a0a rfl rfl<|s_on rfl<|o7 (.bool true) rfl trivial rfl<|o7 (.bool true) rfl trivial rfl<|a0e<|?_;obtain rfl:=os hb2;exact ⟨[],[],_,_,rfl,rfl,⟨.refl _,⟨.refl _,⟨.refl _,⟨.refl _,trivial⟩⟩⟩⟩,(.refl _)⟩
      ·obtain ⟨r_61,er62,hb2⟩:=ob hb2
       refine l7 (.bool (bif (bif (bif (decide ((x_51.toNat:Int) ≥ 97)) then (decide ((x_51.toNat:Int) ≤ 122)) else false) then true else (bif (decide ((x_51.toNat:Int) ≥ 65)) then (decide ((x_51.toNat:Int) ≤ 90)) else false)) then true else ((x_51.toNat:Int) == 95))) rfl<|o7 (.bool (!(bif (bif (bif (decide ((x_51.toNat:Int) ≥ 97)) then (decide ((x_51.toNat:Int) ≤ 122)) else false) then true else (bif (decide ((x_51.toNat:Int) ≥ 65)) then (decide ((x_51.toNat:Int) ≤ 90)) else false)) then true else ((x_51.toNat:Int) == 95)))) rfl trivial rfl<|l7 (.bool (!(bif (bif (bif (decide ((x_51.toNat:Int) ≥ 97)) then (decide ((x_51.toNat:Int) ≤ 122)) else false) then true else (bif (decide ((x_51.toNat:Int) ≥ 65)) then (decide ((x_51.toNat:Int) ≤ 90)) else false)) then true else ((x_51.toNat:Int) == 95)))) rfl<|?_
       refine a1k (s:=34) (b:=true) rfl c59<|s_on rfl<|l7 (.int .i64 (s8_28:Int)) rfl<|s_on rfl<|o7 (.bool ((s8_28:Int) == 0)) rfl rfl rfl<|s_on rfl<|l7 (.bool ((s8_28:Int) == 0)) rfl<|a1k (s:=37) (b:=false) rfl (bf c60)<|s_on rfl<|l7 (.int .u8 (x_51.toNat:Int)) rfl<|s_on rfl<|o8 (a1f (c4q _ _ er62) rfl (.refl _) rfl)<|s_on rfl<|o7 (.bool (!r_61)) rfl trivial rfl<|s_on rfl<|o7 (.bool (!r_61)) rfl trivial rfl<|o7 (.bool (!r_61)) rfl trivial rfl<|a0e<|?_;obtain rfl:=os hb2;exact ⟨[],[],_,_,rfl,rfl,⟨.refl _,⟨.refl _,⟨.refl _,⟨.refl _,trivial⟩⟩⟩⟩,(.refl _)⟩
     ·refine l7 (.bool (bif (bif (bif (decide ((x_51.toNat:Int) ≥ 97)) then (decide ((x_51.toNat:Int) ≤ 122)) else false) then true else (bif (decide ((x_51.toNat:Int) ≥ 65)) then (decide ((x_51.toNat:Int) ≤ 90)) else false)) then true else ((x_51.toNat:Int) == 95))) rfl<|o7 (.bool (!(bif (bif (bif (decide ((x_51.toNat:Int) ≥ 97)) then (decide ((x_51.toNat:Int) ≤ 122)) else false) then true else (bif (decide ((x_51.toNat:Int) ≥ 65)) then (decide ((x_51.toNat:Int) ≤ 90)) else false)) then true else ((x_51.toNat:Int) == 95)))) rfl trivial rfl<|l7 (.bool (!(bif (bif (bif (decide ((x_51.toNat:Int) ≥ 97)) then (decide ((x_51.toNat:Int) ≤ 122)) else false) then true else (bif (decide ((x_51.toNat:Int) ≥ 65)) then (decide ((x_51.toNat:Int) ≤ 90)) else false)) then true else ((x_51.toNat:Int) == 95)))) rfl<|?_
      refine a1k (s:=34) (b:=false) rfl (bf c59)<|a0a rfl rfl<|a0a rfl rfl<|a0a rfl rfl<|a2s rfl<|a2s rfl<|a2s rfl<|a0a rfl rfl<|o7 (.bool false) rfl trivial rfl<|a0e<|?_;obtain rfl:=os hb2;exact ⟨[],[],_,_,rfl,rfl,⟨.refl _,⟨.refl _,⟨.refl _,⟨.refl _,trivial⟩⟩⟩⟩,(.refl _)⟩
    ·rcases oi hc1 with ⟨c63,hc1⟩ | ⟨c63,hc1⟩
     ·refine a0b rfl c63<|sr<|l7 (.bool false) rfl<|dk<|a0d<|?_;obtain rfl:=os hc1;obtain rfl:=os hf;exact a0m ⟨trivial,trivial⟩ rfl (.refl _)
     ·refine a0c rfl (bf c63)<|a0i<|a3l<|a0h<|a0z<|o7 (.int .i64 (w64 ((s8_28:Int) + 1))) rfl rfl rfl<|l7 (.int .i64 (w64 ((s8_28:Int) + 1))) rfl<|a0e<|?_;exact a2p ⟨(s8_28 + 1),hc1⟩ (mul hlt45) ⟨[],[],_,_,rfl,rfl,⟨.refl _,⟨.refl _,⟨.of_eq (congrArg (AV.int _) (a3h hlt45 hl2)),trivial⟩⟩⟩,(.refl _)⟩
 ·rintro ⟨_,rfl⟩
  refine sr<|?_
  obtain ⟨r_65,er66,hf⟩:=ob hf
  refine l7 (.str t_1) rfl<|a1n (b6a rfl) fun hl64 => o8 (a1f (a8c _ _ _ _ er66) rfl (.refl _) rfl)<|l7 (.bool r_65) rfl<|dk<|a0d<|?_;obtain rfl:=os hf;exact a0m ⟨trivial,trivial⟩ rfl (.refl _)

/- impl.rowFits$1 -/
def e5a:a0p :=
 (.seq (.reg (tm 2 (.c (.bool false)) .done))
 (.seq (.reg (tm 3 (.t 0) (tq 4 (.call 186 [(.t 3)]) (tq 5 (.not (.t 4)) (tm 2 (.t 5) .done)))))
 .ret))
theorem e5b:a1b Tryz.prog Tryz.f195 = some (e5a.erase,[.mov (.t 2)],6):=by kernel_rfl
def b0q (name_1:Str):Option Bool :=
    (b1v name_1).bind fun r_2 =>
    some (!r_2)
theorem c1e (name_1:Str) (r:Bool) (hf:b0q name_1 = some r):y9 Tryz.prog 195 .flat [(.str name_1)] (.bool r):=by
  refine y9.of_awp mixed Tryz.func195 e5b nle ?_
  rw [a0f]
  unfold b0q at hf
  unfold e5a
  refine (show awp Tryz.prog false 0 _ (ofL [(0,(.str name_1))]) [] _ from ?_)
  refine o6 ?_
  refine a0z ?_
  refine o8 (a2z (.bool false) rfl) ?_
  refine a0e ?_
  refine a0h ?_
  refine o6 ?_
  refine a0z ?_
  obtain ⟨r_2,er3,hf⟩:=ob hf
  refine o8 (a2z (.str name_1) rfl) ?_
  refine o8 (a1f (c5x _ _ er3) rfl (.refl _) rfl) ?_
  refine o8 (o_q (.bool (!r_2)) rfl trivial rfl) ?_
  refine o8 (a2z (.bool (!r_2)) rfl) ?_
  refine a0e ?_
  refine a0h ?_
  refine a0d ?_
  obtain rfl:=os hf
  exact a0m ⟨trivial,trivial⟩ rfl (.refl _)

/- slices.IndexFunc[[][]impl.Atom,[]impl.Atom] -/
def e5c:a0p :=
 (.seq (.reg (tm 4 (.c (.int .i64 0)) .done))
 (.seq (.seq (.reg (tm 6 (.t 0) (tq 7 (.len (.t 6)) (tm 8 (.c (.int .i64 0)) .done))))
 (.block 0 (.loop (.seq (.reg (tq 9 (.bin .lss (.t 8) (.t 7)) .done))
 (.seq (.cond (.t 9) .skip
 (.exit 0))
 (.seq (.block 1 (.seq (.reg (tm 10 (.t 8) (tm 5 (.t 10) .done)))
 (.seq (.reg (tm 11 (.t 1) (tm 12 (.t 0) (tm 13 (.t 5) (tq 14 (.iaddr 1 (.t 12) (.t 13)) (tq 15 (.load 1 false (.t 14)) (tq 16 (.calv (.t 11) [(.t 15)]) .done)))))))
 (.cond (.t 16) (.seq (.reg (tm 17 (.t 5) (tm 4 (.t 17) .done)))
 .ret)
 .skip))))
 (.reg (tq 18 (.bin .add (.t 8) (.c (.int .i64 1))) (tm 8 (.t 18) .done)))))))))
 (.cut (.seq (.reg (tq 4 (.mov (.c (.int .i64 (-1)))) .done))
 .ret))))
theorem e5d:a1b Tryz.prog Tryz.f334 = some (e5c.erase,[.mov (.t 4)],19):=by kernel_rfl
def a0x (f_2:((List x8) → Option Bool)):List (List x8) → Nat → Option (Fl Int Unit)
  | [],s8_17 =>
    some (.go ())
  | x_31 :: xs,s8_17 =>
    (f_2 x_31).bind fun r_32 =>
    if r_32 then
    some (.ret (s8_17:Int))
    else
    a0x f_2 xs (s8_17 + 1)

def a2g (s_1:(List (List x8))) (f_2:((List x8) → Option Bool)):Option Int :=
    (a0x f_2 s_1 0).bind fun q => (match q with
    | .ret r => some r
    | .go _ =>
    some (-1))
theorem a8i (s_1:(List (List x8))) (f_2:((List x8) → Option Bool)) (r:Int) (hf:a2g s_1 f_2 = some r) (kf_f_2:Nat) (cf_f_2:List AV) (okf_f_2:c8n Tryz.prog kf_f_2 = true) (hcf_f_2:∀ h p,a4d h p cf_f_2 = some cf_f_2) (hrf_f_2:∀ f,a6w f cf_f_2 = cf_f_2) (hpf_f_2:∀ a0 r,f_2 a0 = some r → y9 Tryz.prog kf_f_2 .flat ([(.lst 3 (a0.map l9))] ++ cf_f_2) (.bool r)):y9 Tryz.prog 334 .flat [(.lst 1 (s_1.map (a4z 3 l9))),(.fn kf_f_2 cf_f_2)] (.int .i64 r):=by
 refine y9.of_awp mixed Tryz.func334 e5d nle ?_;rw [a0f];unfold a2g at hf;unfold e5c;refine (show awp Tryz.prog false 0 _ (ofL [(0,(.lst 1 (s_1.map (a4z 3 l9)))),(1,(.fn kf_f_2 cf_f_2))]) [] _ from ?_);refine sr<|l7 (.int .i64 0) rfl<|dk<|o6<|sr<|l7 (.lst 1 (s_1.map (a4z 3 l9))) rfl<|a1n (a3d (enc:=(a4z 3 l9)) rfl) fun hl3 => l7 (.int .i64 0) rfl<|dk<|?_
 obtain ⟨p24,hb1,hf⟩:=ob hf
 refine a4k (X:={q:Unit // p24 = .go q}) (fun q => ([],[])) ?_ ?_
 ·refine a1v (X:={q:Nat // a0x f_2 (s_1.drop q) q = some p24}) (fun q => ([(0,(.lst 1 (s_1.map (a4z 3 l9)))),(1,(.fn kf_f_2 cf_f_2)),(7,(.int .i64 (s_1.length:Int))),(8,(.int .i64 (q.1:Int)))],[])) (fun q => s_1.length - q.1) ⟨0,hb1⟩ ⟨[],[],_,_,rfl,rfl,⟨.refl _,⟨.of_eq (congrArg (AV.fn _) (hrf_f_2 _)),⟨.refl _,⟨.refl _,trivial⟩⟩⟩⟩,(.refl _)⟩ ?_
  rintro ⟨s8_17,hc1⟩
  have hc1:a0x f_2 (s_1.drop s8_17) s8_17 = some p24:=hc1
  refine (show awp Tryz.prog false 0 _ (ofL [(0,(.lst 1 (s_1.map (a4z 3 l9)))),(1,(.fn kf_f_2 cf_f_2)),(7,(.int .i64 (s_1.length:Int))),(8,(.int .i64 (s8_17:Int)))]) [] _ from ?_)
  rcases a7j s_1 s8_17 with ⟨hie27,hd30⟩ | ⟨hlt25,x_31,hx26,hd30⟩
  ·rw [hd30,a0x.eq_1] at hc1
   have hq29:=dlf hie27
   refine sr<|o7 (.bool (decide ((s8_17:Int) < (s_1.length:Int)))) rfl rfl rfl<|dk<|o6<|a0c rfl hq29<|a4b<|a4a<|a2w<|a3z<|?_;obtain rfl:=os hc1;exact a5z ⟨_,rfl⟩ ⟨[],[],_,_,rfl,rfl,trivial,(.refl _)⟩
  ·rw [hd30,a0x.eq_2] at hc1
   have hq29:=dlt hlt25
   refine sr<|o7 (.bool (decide ((s8_17:Int) < (s_1.length:Int)))) rfl rfl rfl<|dk<|o6<|a0b rfl hq29<|a0i<|a0h<|o6<|a3s<|sr<|l7 (.int .i64 (s8_17:Int)) rfl<|l7 (.int .i64 (s8_17:Int)) rfl<|dk<|sr<|?_
   obtain ⟨r_32,er33,hc1⟩:=ob hc1
   refine l7 (.fn kf_f_2 cf_f_2) rfl<|l7 (.lst 1 (s_1.map (a4z 3 l9))) rfl<|l7 (.int .i64 (s8_17:Int)) rfl<|o8 (a3o (enc:=(a4z 3 l9)) rfl rfl hx26)<|o7 (.lst 3 (x_31.map l9)) rfl ⟨rfl,rfl⟩ rfl<|o8 (d3m (v:=(.bool r_32)) rfl okf_f_2 hcf_f_2 (hpf_f_2 _ _ er33) rfl (.refl _) rfl)<|dk<|?_
   rcases oi hc1 with ⟨c34,hc1⟩ | ⟨c34,hc1⟩
   ·refine a0b rfl c34<|sr<|l7 (.int .i64 (s8_17:Int)) rfl<|l7 (.int .i64 (s8_17:Int)) rfl<|dk<|a0d<|?_;obtain rfl:=os hc1;obtain rfl:=os hf;exact a0m ⟨trivial,trivial⟩ rfl (.refl _)
   ·refine a0c rfl (bf c34)<|a0i<|a3l<|a0h<|a0z<|o7 (.int .i64 (w64 ((s8_17:Int) + 1))) rfl rfl rfl<|l7 (.int .i64 (w64 ((s8_17:Int) + 1))) rfl<|a0e<|?_;exact a2p ⟨(s8_17 + 1),hc1⟩ (mul hlt25) ⟨[],[],_,_,rfl,rfl,⟨.refl _,⟨.of_eq (congrArg (AV.fn _) (hrf_f_2 _)),⟨.refl _,⟨.of_eq (congrArg (AV.int _) (a3h hlt25 hl3)),trivial⟩⟩⟩⟩,(.refl _)⟩
 ·rintro ⟨_,rfl⟩
  refine sr<|l7 (.int .i64 (-1)) rfl<|dk<|a0d<|?_;obtain rfl:=os hf;exact a0m ⟨trivial,trivial⟩ rfl (.refl _)

/- slices.ContainsFunc[[][]impl.Atom,[]impl.Atom] -/
def e5e:a0p :=
 (.seq (.reg (tm 4 (.c (.bool false)) .done))
 (.seq (.reg (tm 5 (.t 0) (tm 6 (.t 1) (tq 7 (.call 334 [(.t 5),(.t 6)]) (tq 8 (.bin .geq (.t 7) (.c (.int .i64 0))) (tm 4 (.t 8) .done))))))
 .ret))
theorem e5f:a1b Tryz.prog Tryz.f285 = some (e5e.erase,[.mov (.t 4)],9):=by kernel_rfl
def a1x (s_1:(List (List x8))) (f_2:((List x8) → Option Bool)):Option Bool :=
    (a2g s_1 f_2).bind fun r_3 =>
    some (decide (r_3 ≥ 0))
theorem a7v (s_1:(List (List x8))) (f_2:((List x8) → Option Bool)) (r:Bool) (hf:a1x s_1 f_2 = some r) (kf_f_2:Nat) (cf_f_2:List AV) (okf_f_2:c8n Tryz.prog kf_f_2 = true) (hcf_f_2:∀ h p,a4d h p cf_f_2 = some cf_f_2) (hrf_f_2:∀ f,a6w f cf_f_2 = cf_f_2) (hpf_f_2:∀ a0 r,f_2 a0 = some r → y9 Tryz.prog kf_f_2 .flat ([(.lst 3 (a0.map l9))] ++ cf_f_2) (.bool r)):y9 Tryz.prog 285 .flat [(.lst 1 (s_1.map (a4z 3 l9))),(.fn kf_f_2 cf_f_2)] (.bool r):=by
 refine y9.of_awp mixed Tryz.func285 e5f nle ?_;rw [a0f];unfold a1x at hf;unfold e5e;refine (show awp Tryz.prog false 0 _ (ofL [(0,(.lst 1 (s_1.map (a4z 3 l9)))),(1,(.fn kf_f_2 cf_f_2))]) [] _ from ?_);refine sr<|l7 (.bool false) rfl<|dk<|sr<|?_
 obtain ⟨r_3,er4,hf⟩:=ob hf
 refine l7 (.lst 1 (s_1.map (a4z 3 l9))) rfl<|l7 (.fn kf_f_2 cf_f_2) rfl<|o8 (a1f (a8i _ _ _ er4 kf_f_2 cf_f_2 okf_f_2 hcf_f_2 hrf_f_2 hpf_f_2) (b9c rfl (b9c (d7e hcf_f_2) rfl)) (.refl _) rfl)<|o7 (.bool (decide (r_3 ≥ 0))) rfl rfl rfl<|l7 (.bool (decide (r_3 ≥ 0))) rfl<|dk<|a0d<|?_;obtain rfl:=os hf;exact a0m ⟨trivial,trivial⟩ rfl (.refl _)

/- impl.isRowOf$1 -/
def e5g:a0p :=
 (.seq (.reg (tm 2 (.c (.bool false)) .done))
 (.seq (.reg (tm 3 (.t 0) (tq 4 (.call 129 [(.t 3)]) (tq 5 (.not (.t 4)) (tm 2 (.t 5) .done)))))
 .ret))
theorem e5h:a1b Tryz.prog Tryz.f286 = some (e5g.erase,[.mov (.t 2)],6):=by kernel_rfl
def b0r (d_1:(List x8)):Option Bool :=
    (a8x d_1).bind fun r_2 =>
    some (!r_2)
theorem c1f (d_1:(List x8)) (r:Bool) (hf:b0r d_1 = some r):y9 Tryz.prog 286 .flat [(.lst 3 (d_1.map l9))] (.bool r):=by
  refine y9.of_awp mixed Tryz.func286 e5h nle ?_
  rw [a0f]
  unfold b0r at hf
  unfold e5g
  refine (show awp Tryz.prog false 0 _ (ofL [(0,(.lst 3 (d_1.map l9)))]) [] _ from ?_)
  refine o6 ?_
  refine a0z ?_
  refine o8 (a2z (.bool false) rfl) ?_
  refine a0e ?_
  refine a0h ?_
  refine o6 ?_
  refine a0z ?_
  obtain ⟨r_2,er3,hf⟩:=ob hf
  refine o8 (a2z (.lst 3 (d_1.map l9)) rfl) ?_
  refine o8 (a1f (b6d _ _ er3) rfl (.refl _) rfl) ?_
  refine o8 (o_q (.bool (!r_2)) rfl trivial rfl) ?_
  refine o8 (a2z (.bool (!r_2)) rfl) ?_
  refine a0e ?_
  refine a0h ?_
  refine a0d ?_
  obtain rfl:=os hf
  exact a0m ⟨trivial,trivial⟩ rfl (.refl _)

/- impl.isRowOf -/
def c196:a0p :=
 (.seq (.reg (tq 2 (.box 2 (.t 0)) (tm 4 (.c (.bool false)) .done)))
 (.seq (.reg (tq 5 (.faddr 1 (.t 2)) (tq 6 (.load 1 false (.t 5)) (tq 7 (.len (.t 6)) (tm 8 (.t 1) (tq 9 (.bin .eql (.t 7) (.t 8)) (tm 10 (.t 9) (tg 11 10 true (.faddr 1 (.t 2)) (tg 12 10 true (.load 1 false (.t 11)) (tg 13 10 true (.call 285 [(.t 12),(.c (.fn 286 []))]) (tg 14 10 true (.not (.t 13)) (tq 15 (.pick (.t 10) (.t 14) (.c (.bool false))) (tm 4 (.t 15) .done)))))))))))))
 .ret))
theorem e5i:a1b Tryz.prog Tryz.f196 = some (c196.erase,[.mov (.t 4)],16):=by kernel_rfl
def b0s (r_1:b1r) (many_2:Int):Option Bool :=
    if ((r_1.Cells.length:Int) == many_2) then
    (a1x r_1.Cells b0r).bind fun r_5 =>
    some (!r_5)
    else
    some false
theorem c4r (r_1:b1r) (many_2:Int) (r:Bool) (hf:b0s r_1 many_2 = some r):y9 Tryz.prog 196 .flat [(b1i r_1),(.int .i64 many_2)] (.bool r):=by
 refine y9.of_awp mixed Tryz.func196 e5i nle ?_;rw [a0f];unfold b0s at hf;unfold c196;refine (show awp Tryz.prog false 0 _ (ofL [(0,(b1i r_1)),(1,(.int .i64 many_2))]) [] _ from ?_);refine sr<|o8 (a1g (j:=0) (c:=(.agg [(.int .i64 r_1.Id),(.lst 1 (r_1.Cells.map (a4z 3 l9)))])) rfl trivial rfl rfl)<|l7 (.bool false) rfl<|dk<|sr<|?_
 rcases oi hf with ⟨c4,hf⟩ | ⟨c4,hf⟩
 ·obtain ⟨r_5,er6,hf⟩:=ob hf
  refine o7 (.ptr 0 0 1) rfl trivial rfl<|o7 (.lst 1 (r_1.Cells.map (a4z 3 l9))) rfl nle rfl<|a1n (a3d (enc:=(a4z 3 l9)) rfl) fun hl3 => l7 (.int .i64 many_2) rfl<|o7 (.bool ((r_1.Cells.length:Int) == many_2)) rfl rfl rfl<|l7 (.bool ((r_1.Cells.length:Int) == many_2)) rfl<|a1k (s:=10) (b:=true) rfl c4<|s_on rfl<|o7 (.ptr 0 0 1) rfl trivial rfl<|s_on rfl<|o7 (.lst 1 (r_1.Cells.map (a4z 3 l9))) rfl nle rfl<|s_on rfl<|?_;refine o8 (a1f (a7v _ _ _ er6 286 [] (by kernel_rfl) (fun _ _ => rfl) (fun _ => rfl) (fun a0 r h => c1f a0 r h)) rfl (.refl _) rfl) ?_;refine s_on rfl<|o7 (.bool (!r_5)) rfl trivial rfl<|?_
  refine o7 (.bool (!r_5)) rfl trivial rfl<|l7 (.bool (!r_5)) rfl<|dk<|a0d<|?_;obtain rfl:=os hf;exact a0m ⟨trivial,trivial⟩ rfl (.refl _)
 ·refine o7 (.ptr 0 0 1) rfl trivial rfl<|o7 (.lst 1 (r_1.Cells.map (a4z 3 l9))) rfl nle rfl<|a1n (a3d (enc:=(a4z 3 l9)) rfl) fun hl3 => l7 (.int .i64 many_2) rfl<|o7 (.bool ((r_1.Cells.length:Int) == many_2)) rfl rfl rfl<|l7 (.bool ((r_1.Cells.length:Int) == many_2)) rfl<|a1k (s:=10) (b:=false) rfl (bf c4)<|a0a rfl rfl<|a0a rfl rfl<|a0a rfl rfl<|a0a rfl rfl<|o7 (.bool false) rfl trivial rfl<|l7 (.bool false) rfl<|dk<|a0d<|?_;obtain rfl:=os hf;exact a0m ⟨trivial,trivial⟩ rfl (.refl _)

/- impl.rowFits -/
def c97:a0p :=
 (.seq (.reg (tq 3 (.box 2 (.t 1)) (tm 4 (.c (.bool false)) .done)))
 (.seq (.reg (tm 5 (.t 0) (tq 6 (.len (.t 5)) (tq 7 (.bin .leq (.t 6) (.c (.int .i64 6))) (tm 8 (.t 7) (tg 9 8 true (.mov (.t 0)) (tg 10 8 true (.call 194 [(.t 9),(.c (.fn 195 []))]) (tg 11 8 true (.not (.t 10)) (tq 12 (.pick (.t 8) (.t 11) (.c (.bool false))) (tm 13 (.t 12) (tg 14 13 true (.load 2 true (.t 3)) (tg 15 13 true (.mov (.t 0)) (tg 16 13 true (.len (.t 15)) (tg 17 13 true (.call 196 [(.t 14),(.t 16)]) (tq 18 (.pick (.t 13) (.t 17) (.c (.bool false))) (tm 4 (.t 18) .done))))))))))))))))
 .ret))
theorem e6z:a1b Tryz.prog Tryz.f97 = some (c97.erase,[.mov (.t 4)],19):=by kernel_rfl
def b0t (columns_1:(List Str)) (r_2:b1r):Option Bool :=
    if (decide ((columns_1.length:Int) ≤ 6)) then
    (a2q columns_1 b0q).bind fun r_5 =>
    if (!r_5) then
    (b0s r_2 (columns_1.length:Int)).bind fun r_9 =>
    some r_9
    else
    some false
    else
    some false
theorem c4s (columns_1:(List Str)) (r_2:b1r) (r:Bool) (hf:b0t columns_1 r_2 = some r):y9 Tryz.prog 97 .flat [(.lst 1 (columns_1.map AV.str)),(b1i r_2)] (.bool r):=by
 refine y9.of_awp mixed Tryz.func97 e6z nle ?_;rw [a0f];unfold b0t at hf;unfold c97;refine (show awp Tryz.prog false 0 _ (ofL [(0,(.lst 1 (columns_1.map AV.str))),(1,(b1i r_2))]) [] _ from ?_);refine sr<|o8 (a1g (j:=0) (c:=(.agg [(.int .i64 r_2.Id),(.lst 1 (r_2.Cells.map (a4z 3 l9)))])) rfl trivial rfl rfl)<|l7 (.bool false) rfl<|dk<|sr<|l7 (.lst 1 (columns_1.map AV.str)) rfl<|a1n (a3d (enc:=AV.str) rfl) fun hl3 => o7 (.bool (decide ((columns_1.length:Int) ≤ 6))) rfl rfl rfl<|l7 (.bool (decide ((columns_1.length:Int) ≤ 6))) rfl<|?_
 rcases oi hf with ⟨c4,hf⟩ | ⟨c4,hf⟩
 ·refine a1k (s:=8) (b:=true) rfl c4<|s_on rfl<|l7 (.lst 1 (columns_1.map AV.str)) rfl<|s_on rfl<|?_
  obtain ⟨r_5,er6,hf⟩:=ob hf
  refine o8 (a1f (a9h _ _ _ er6 195 [] (by kernel_rfl) (fun _ _ => rfl) (fun _ => rfl) (fun a0 r h => c1e a0 r h)) rfl (.refl _) rfl) ?_;refine s_on rfl<|o7 (.bool (!r_5)) rfl trivial rfl<|o7 (.bool (!r_5)) rfl trivial rfl<|l7 (.bool (!r_5)) rfl<|?_
  rcases oi hf with ⟨c7,hf⟩ | ⟨c7,hf⟩
  ·refine a1k (s:=13) (b:=true) rfl c7<|s_on rfl<|o7 (.agg [(.int .i64 r_2.Id),(.lst 1 (r_2.Cells.map (a4z 3 l9)))]) rfl nle rfl<|s_on rfl<|l7 (.lst 1 (columns_1.map AV.str)) rfl<|s_on rfl<|a1n (a3d (enc:=AV.str) rfl) fun hl8 => s_on rfl<|?_
   obtain ⟨r_9,er10,hf⟩:=ob hf
   refine o8 (a1f (c4r _ _ _ er10) rfl (.refl _) rfl)<|o7 (.bool r_9) rfl trivial rfl<|l7 (.bool r_9) rfl<|dk<|a0d<|?_;obtain rfl:=os hf;exact a0m ⟨trivial,trivial⟩ rfl (.refl _)
  ·refine a1k (s:=13) (b:=false) rfl (bf c7)<|a0a rfl rfl<|a0a rfl rfl<|a0a rfl rfl<|a0a rfl rfl<|o7 (.bool false) rfl trivial rfl<|l7 (.bool false) rfl<|dk<|a0d<|?_;obtain rfl:=os hf;exact a0m ⟨trivial,trivial⟩ rfl (.refl _)
 ·refine a1k (s:=8) (b:=false) rfl (bf c4)<|a0a rfl rfl<|a0a rfl rfl<|a0a rfl rfl<|o7 (.bool false) rfl trivial rfl<|l7 (.bool false) rfl<|a0a rfl rfl<|a0a rfl rfl<|a0a rfl rfl<|a0a rfl rfl<|o7 (.bool false) rfl trivial rfl<|l7 (.bool false) rfl<|dk<|a0d<|?_;obtain rfl:=os hf;exact a0m ⟨trivial,trivial⟩ rfl (.refl _)

/- slices.Clone[[]string,string] -/
def e5j:a0p :=
 (.seq (.reg (tm 2 (.c .nil) .done))
 (.seq (.seq (.reg (tm 3 (.t 0) (tq 4 (.isnil false (.t 3)) .done)))
 (.cond (.t 4) (.seq (.reg (tm 2 (.c .nil) .done))
 .ret)
 .skip))
 (.seq (.reg (tq 5 (.bslice 1 []) (tm 6 (.t 0) (tq 7 (.append 1 16 (.t 5) (.t 6)) (tm 2 (.t 7) .done)))))
 .ret)))
theorem e5k:a1b Tryz.prog Tryz.f197 = some (e5j.erase,[.mov (.t 2)],8):=by kernel_rfl
def a2o (s_1:(List Str)):Option (List Str) :=
    if ([] ++ s_1).length ≤ 2 ^ 30 then
    some ([] ++ s_1)
    else none
theorem a7z (s_1:(List Str)) (r:(List Str)) (hf:a2o s_1 = some r):y9 Tryz.prog 197 .fresh [(.lst 1 (s_1.map AV.str))] (.lst 1 (r.map AV.str)):=by
 refine y9.of_awp mixed Tryz.func197 e5k nle ?_;rw [a0f];unfold a2o at hf;unfold e5j;refine (show awp Tryz.prog true 0 _ (ofL [(0,(.lst 1 (s_1.map AV.str)))]) [] _ from ?_);refine sr<|l7 .nil rfl<|dk<|o6<|sr<|l7 (.lst 1 (s_1.map AV.str)) rfl<|e0o (l:=s_1.map AV.str) rfl<|?_
 intro b hb3
 rcases b with _ | _
 ·refine dk<|a0c rfl rfl<|a0i<|a0h<|sr<|?_
  obtain ⟨g2,hf⟩:=og hf
  refine o8 (a1c (j:=0) (as':=[]) rfl (fun _ => by decide) trivial (.refl _) rfl rfl rfl) ?_;refine l7 (.lst 1 (s_1.map AV.str)) rfl ?_
  refine o8 (a2a (j:=1) (L:=(([] ++ s_1).map AV.str)) (len:=([] ++ s_1).length) rfl false rfl rfl (fun _ => flm (fun _ => rfl) _) (fun _ _ _ => flm (fun _ => rfl) _) (by decide) ((by simp)) (by simp <;> omega) g2 rfl rfl) ?_
  refine l7 (.own 1 0 (([] ++ s_1).length)) rfl<|dk<|a0d<|?_;obtain rfl:=os hf;exact a1j ⟨trivial,trivial⟩ rfl (by decide) (.of_eq (congrArg (AV.lst _) (tk (enc:=AV.str) ([] ++ s_1))))
 ·have he4:s_1 = []:=d7b (hb3 rfl)
  have hE:(if ([] ++ s_1).length ≤ 2 ^ 30 then some ([] ++ s_1) else none) = (some []):=by simp [he4]
  rw [hE] at hf;refine dk<|a0b rfl rfl<|sr<|l7 .nil rfl<|dk<|a0d<|?_;obtain rfl:=os hf;exact a1j ⟨trivial,trivial⟩ rfl (by decide) (.nil _)

/- cmp.isNaN[string] -/
def e5l:a0p :=
 (.seq (.reg (tm 2 (.c (.bool false)) .done))
 (.seq (.reg (tm 3 (.t 0) (tm 4 (.t 0) (tq 5 (.bin .neq (.t 3) (.t 4)) (tm 2 (.t 5) .done)))))
 .ret))
theorem e5m:a1b Tryz.prog Tryz.f383 = some (e5l.erase,[.mov (.t 2)],6):=by kernel_rfl
def cmp_isNaN_string (x_1:Str):Option Bool :=
    some (!(x_1 == x_1))
theorem b3d (x_1:Str) (r:Bool) (hf:cmp_isNaN_string x_1 = some r):y9 Tryz.prog 383 .flat [(.str x_1)] (.bool r):=by
  refine y9.of_awp mixed Tryz.func383 e5m nle ?_
  rw [a0f]
  unfold cmp_isNaN_string at hf
  unfold e5l
  refine (show awp Tryz.prog false 0 _ (ofL [(0,(.str x_1))]) [] _ from ?_)
  refine o6 ?_
  refine a0z ?_
  refine o8 (a2z (.bool false) rfl) ?_
  refine a0e ?_
  refine a0h ?_
  refine o6 ?_
  refine a0z ?_
  refine o8 (a2z (.str x_1) rfl) ?_
  refine o8 (a2z (.str x_1) rfl) ?_
  refine o8 (o_q (.bool (!(x_1 == x_1))) rfl trivial rfl) ?_
  refine o8 (a2z (.bool (!(x_1 == x_1))) rfl) ?_
  refine a0e ?_
  refine a0h ?_
  refine a0d ?_
  obtain rfl:=os hf
  exact a0m ⟨trivial,trivial⟩ rfl (.refl _)

/- cmp.Less[string] -/
def e5n:a0p :=
 (.seq (.reg (tm 4 (.c (.bool false)) .done))
 (.seq (.reg (tm 5 (.t 0) (tq 6 (.call 383 [(.t 5)]) (tm 7 (.t 6) (tg 8 7 true (.mov (.t 1)) (tg 9 7 true (.call 383 [(.t 8)]) (tg 10 7 true (.not (.t 9)) (tq 11 (.pick (.t 7) (.t 10) (.c (.bool false))) (tm 12 (.t 11) (tg 13 12 false (.mov (.t 0)) (tg 14 12 false (.mov (.t 1)) (tg 15 12 false (.bin .lss (.t 13) (.t 14)) (tq 16 (.pick (.t 12) (.c (.bool true)) (.t 15)) (tm 4 (.t 16) .done))))))))))))))
 .ret))
theorem e5o:a1b Tryz.prog Tryz.f341 = some (e5n.erase,[.mov (.t 4)],17):=by kernel_rfl
def cmp_Less_string (x_1:Str) (y_2:Str):Option Bool :=
    (cmp_isNaN_string x_1).bind fun r_3 =>
    if r_3 then
    (cmp_isNaN_string y_2).bind fun r_6 =>
    some (bif (!r_6) then true else (Op.bytesLess x_1 y_2))
    else
    some (Op.bytesLess x_1 y_2)
theorem b9o (x_1:Str) (y_2:Str) (r:Bool) (hf:cmp_Less_string x_1 y_2 = some r):y9 Tryz.prog 341 .flat [(.str x_1),(.str y_2)] (.bool r):=by
 refine y9.of_awp mixed Tryz.func341 e5o nle ?_;rw [a0f];unfold cmp_Less_string at hf;unfold e5n;refine (show awp Tryz.prog false 0 _ (ofL [(0,(.str x_1)),(1,(.str y_2))]) [] _ from ?_);refine sr<|l7 (.bool false) rfl<|dk<|sr<|l7 (.str x_1) rfl<|?_
 obtain ⟨r_3,er4,hf⟩:=ob hf
 refine o8 (a1f (b3d _ _ er4) rfl (.refl _) rfl)<|l7 (.bool r_3) rfl<|?_
 rcases oi hf with ⟨c5,hf⟩ | ⟨c5,hf⟩
 ·refine a1k (s:=7) (b:=true) rfl c5<|s_on rfl<|l7 (.str y_2) rfl<|s_on rfl<|?_
  obtain ⟨r_6,er7,hf⟩:=ob hf
  refine o8 (a1f (b3d _ _ er7) rfl (.refl _) rfl)<|s_on rfl<|o7 (.bool (!r_6)) rfl trivial rfl<|o7 (.bool (!r_6)) rfl trivial rfl<|l7 (.bool (!r_6)) rfl<|?_;refine s_g (v:=(!r_6)) (.str x_1) rfl (fun hv => by (try simp only [a0g hv]);exact ⟨rfl,trivial,rfl⟩) ?_;refine s_g (v:=(!r_6)) (.str y_2) rfl (fun hv => by (try simp only [a0g hv]);exact ⟨rfl,trivial,rfl⟩) ?_;refine s_g (v:=(!r_6)) (.bool (Op.bytesLess x_1 y_2)) rfl (fun hv => by (try simp only [a0g hv]);exact ⟨rfl,trivial,rfl⟩) ?_;refine a5a (x:=true) (y:=(Op.bytesLess x_1 y_2)) rfl (fun hv => by (try simp only [a0g hv]);rfl) (fun hv => by (try simp only [a0g hv]);rfl) ?_;refine l7 (.bool (bif (!r_6) then true else (Op.bytesLess x_1 y_2))) rfl ?_
  refine dk<|a0d<|?_;obtain rfl:=os hf;exact a0m ⟨trivial,trivial⟩ rfl (.refl _)
 ·refine a1k (s:=7) (b:=false) rfl (bf c5)<|a0a rfl rfl<|a0a rfl rfl<|a0a rfl rfl<|o7 (.bool false) rfl trivial rfl<|l7 (.bool false) rfl<|s_on rfl<|l7 (.str x_1) rfl<|s_on rfl<|l7 (.str y_2) rfl<|s_on rfl<|o7 (.bool (Op.bytesLess x_1 y_2)) rfl trivial rfl<|o7 (.bool (Op.bytesLess x_1 y_2)) rfl trivial rfl<|l7 (.bool (Op.bytesLess x_1 y_2)) rfl<|dk<|a0d<|?_;obtain rfl:=os hf;exact a0m ⟨trivial,trivial⟩ rfl (.refl _)

/- slices.insertionSortOrdered[string] -/
def d4h:a0p :=
 (.seq (.reg (tm 8 (.t 1) (tq 9 (.bin .add (.t 8) (.c (.int .i64 1))) (tm 6 (.t 9) .done))))
 (.block 0 (.loop (.seq (.seq (.reg (tm 10 (.t 6) (tm 11 (.t 2) (tq 12 (.bin .lss (.t 10) (.t 11)) .done))))
 (.cond (.t 12) .skip
 (.exit 0)))
 (.seq (.block 1 (.seq (.reg (tm 15 (.t 6) (tm 7 (.t 15) .done)))
 (.block 2 (.loop (.seq (.seq (.reg (tm 16 (.t 7) (tm 17 (.t 1) (tq 18 (.bin .gtr (.t 16) (.t 17)) (tm 19 (.t 18) (tg 20 19 true (.mov (.t 0)) (tg 21 19 true (.mov (.t 7)) (tg 22 19 true (.iaddr 1 (.t 20) (.t 21)) (tg 23 19 true (.load 1 false (.t 22)) (tg 24 19 true (.mov (.t 0)) (tg 25 19 true (.mov (.t 7)) (tg 26 19 true (.bin .sub (.t 25) (.c (.int .i64 1))) (tg 27 19 true (.iaddr 1 (.t 24) (.t 26)) (tg 28 19 true (.load 1 false (.t 27)) (.l ⟨(some 29),(some (19,true)),.call 341 [(.t 23),(.t 28)]⟩ []
 (tq 30 (.pick (.t 19) (.t 29) (.c (.bool false))) .done) .non)))))))))))))))
 (.cut (.cond (.t 30) .skip
 (.exit 2))))
 (.seq (.block 3 (.reg (tm 33 (.t 0) (tm 34 (.t 7) (tm 35 (.t 0) (tm 36 (.t 7) (tq 37 (.bin .sub (.t 36) (.c (.int .i64 1))) (tm 38 (.t 0) (tm 39 (.t 7) (tq 40 (.bin .sub (.t 39) (.c (.int .i64 1))) (tq 41 (.iaddr 1 (.t 38) (.t 40)) (tq 42 (.load 1 false (.t 41)) (tm 43 (.t 0) (tm 44 (.t 7) (tq 45 (.iaddr 1 (.t 43) (.t 44)) (tq 46 (.load 1 false (.t 45)) (tq 47 (.iaddr 1 (.t 33) (.t 34)) (.l ⟨none,none,.store 1 (.t 47) (.t 42)⟩ []
 (tq 48 (.iaddr 1 (.t 35) (.t 37)) (.l ⟨none,none,.store 1 (.t 48) (.t 46)⟩ []
 .done .non)) .non))))))))))))))))))
 (.reg (tm 31 (.t 7) (tq 32 (.bin .sub (.t 31) (.c (.int .i64 1))) (tm 7 (.t 32) .done))))))))))
 (.cut (.reg (tm 13 (.t 6) (tq 14 (.bin .add (.t 13) (.c (.int .i64 1))) (tm 6 (.t 14) .done))))))))))
theorem d8h:a1b Tryz.prog Tryz.f335 = some (d4h.erase,[],49):=by kernel_rfl
def a0y (a_2:Int):Nat → Int → (List Str) → Option (List Str)
  | 0,_,_ => none
  | k + 1,j_864,data_865 =>
    ((if (decide (j_864 > a_2)) then
    if (0:Int) ≤ j_864 ∧ j_864 < (data_865.length:Int) then
    (data_865[(0 + j_864.toNat)]?).bind fun x_912 =>
    if (0:Int) ≤ w64 (j_864 - 1) ∧ w64 (j_864 - 1) < (data_865.length:Int) then
    (data_865[(0 + (w64 (j_864 - 1)).toNat)]?).bind fun x_915 =>
    (cmp_Less_string x_912 x_915).bind fun r_917 =>
    some r_917
    else none
    else none
    else
    some false:Option Bool)).bind fun s30_908 =>
    if s30_908 then
    if (0:Int) ≤ w64 (j_864 - 1) ∧ w64 (j_864 - 1) < (data_865.length:Int) then
    (data_865[(0 + (w64 (j_864 - 1)).toNat)]?).bind fun x_921 =>
    if (0:Int) ≤ j_864 ∧ j_864 < (data_865.length:Int) then
    (data_865[(0 + j_864.toNat)]?).bind fun x_924 =>
    if (0:Int) ≤ j_864 ∧ j_864 < (data_865.length:Int) then
    if (0:Int) ≤ w64 (j_864 - 1) ∧ w64 (j_864 - 1) < (data_865.length:Int) then
    ((data_865.set (0 + j_864.toNat) x_921)[(0 + (w64 (j_864 - 1)).toNat)]?).bind fun x_928 =>
    a0y a_2 k (w64 (j_864 - 1)) ((data_865.set (0 + j_864.toNat) x_921).set (0 + (w64 (j_864 - 1)).toNat) x_924)
    else none
    else none
    else none
    else none
    else
    some data_865

def a0u (b_3:Int) (a_2:Int):Nat → Int → (List Str) → Option (List Str)
  | 0,_,_ => none
  | k + 1,i_665,data_666 =>
    if (decide (i_665 < b_3)) then
    (a0y a_2 FUEL i_665 data_666).bind fun data_897 =>
    a0u b_3 a_2 k (w64 (i_665 + 1)) data_897
    else
    some data_666

def a2h (data_1:(List Str)) (a_2:Int) (b_3:Int):Option (List Str) :=
    a0u b_3 a_2 FUEL (w64 (a_2 + 1)) data_1
theorem a8j (data_1:(List Str)) (a_2:Int) (b_3:Int) (r:(List Str)) (hf:a2h data_1 a_2 b_3 = some r):a0j Tryz.prog true 335 [(.own 0 0 data_1.length),(.int .i64 a_2),(.int .i64 b_3)] [.row 1 (data_1.map AV.str)] (.tup []) [.row 1 (r.map AV.str)]:=by
 refine a0j.of_awp mixed Tryz.func335 d8h nle ?_;rw [a0f];unfold a2h at hf;unfold d4h;refine (show awp Tryz.prog true 1 _ (ofL [(0,(.own 0 0 data_1.length)),(1,(.int .i64 a_2)),(2,(.int .i64 b_3))]) [.row 1 (data_1.map AV.str)] _ from ?_);refine sr<|l7 (.int .i64 a_2) rfl<|o7 (.int .i64 (w64 (a_2 + 1))) rfl rfl rfl<|l7 (.int .i64 (w64 (a_2 + 1))) rfl<|dk<|?_;refine a1v (X:={q:(Nat × Int × (List Str)) // a0u b_3 a_2 q.1 q.2.1 q.2.2 = some r}) (fun q => ([(0,(.own 0 0 q.1.2.2.length)),(1,(.int .i64 a_2)),(2,(.int .i64 b_3)),(6,(.int .i64 q.1.2.1))],[.row 1 (q.1.2.2.map AV.str)])) (fun q => q.1.1) ⟨(FUEL,w64 (a_2 + 1),data_1),hf⟩ ⟨[],[0],_,_,rfl,rfl,⟨.refl _,⟨.refl _,⟨.refl _,⟨.refl _,trivial⟩⟩⟩⟩,(.refl _)⟩ ?_
 rintro ⟨⟨k,i_665,data_666⟩,hc1⟩
 have hc1:a0u b_3 a_2 k i_665 data_666 = some r:=hc1
 refine (show awp Tryz.prog true 1 _ (ofL [(0,(.own 0 0 data_666.length)),(1,(.int .i64 a_2)),(2,(.int .i64 b_3)),(6,(.int .i64 i_665))]) [.row 1 (data_666.map AV.str)] _ from ?_)
 rcases k with _ | k
 ·rw [a0u.eq_1] at hc1
  cases hc1
 ·rw [a0u.eq_2] at hc1;refine o6<|sr<|l7 (.int .i64 i_665) rfl<|l7 (.int .i64 b_3) rfl<|o7 (.bool (decide (i_665 < b_3))) rfl rfl rfl<|dk<|?_
  rcases oi hc1 with ⟨c799,hc1⟩ | ⟨c799,hc1⟩
  ·refine a0b rfl c799<|a0i<|a0h<|o6<|a3s<|sr<|l7 (.int .i64 i_665) rfl<|l7 (.int .i64 i_665) rfl<|dk<|?_
   obtain ⟨data_897,hb1,hc1⟩:=ob hc1
   refine d0u ([(0,(.own 0 0 data_897.length)),(1,(.int .i64 a_2)),(2,(.int .i64 b_3)),(6,(.int .i64 i_665))],[.row 1 (data_897.map AV.str)]) ?_ ?_
   ·refine a1v (X:={q:(Nat × Int × (List Str)) // a0y a_2 q.1 q.2.1 q.2.2 = some data_897}) (fun q => ([(0,(.own 0 0 q.1.2.2.length)),(1,(.int .i64 a_2)),(2,(.int .i64 b_3)),(6,(.int .i64 i_665)),(7,(.int .i64 q.1.2.1))],[.row 1 (q.1.2.2.map AV.str)])) (fun q => q.1.1) ⟨(FUEL,i_665,data_666),hb1⟩ ⟨[],[0],_,_,rfl,rfl,⟨.refl _,⟨.refl _,⟨.refl _,⟨.refl _,⟨.refl _,trivial⟩⟩⟩⟩⟩,(.refl _)⟩ ?_
    rintro ⟨⟨k,j_864,data_865⟩,hc1⟩
    have hc1:a0y a_2 k j_864 data_865 = some data_897:=hc1
    refine (show awp Tryz.prog true 1 _ (ofL [(0,(.own 0 0 data_865.length)),(1,(.int .i64 a_2)),(2,(.int .i64 b_3)),(6,(.int .i64 i_665)),(7,(.int .i64 j_864))]) [.row 1 (data_865.map AV.str)] _ from ?_)
    rcases k with _ | k
    ·rw [a0y.eq_1] at hc1
     cases hc1
    ·rw [a0y.eq_2] at hc1;refine o6<|o6<|?_
     obtain ⟨s30_908,hb2,hc1⟩:=ob hc1
     refine a2v ([(0,(.own 0 0 data_865.length)),(1,(.int .i64 a_2)),(2,(.int .i64 b_3)),(6,(.int .i64 i_665)),(7,(.int .i64 j_864)),(30,(.bool s30_908))],[.row 1 (data_865.map AV.str)]) ?_ ?_
     ·refine a0z<|l7 (.int .i64 j_864) rfl<|l7 (.int .i64 a_2) rfl<|o7 (.bool (decide (j_864 > a_2))) rfl rfl rfl<|l7 (.bool (decide (j_864 > a_2))) rfl<|?_
      rcases oi hb2 with ⟨c910,hb2⟩ | ⟨c910,hb2⟩
      ·refine a1k (s:=19) (b:=true) rfl c910<|s_on rfl<|l7 (.own 0 0 data_865.length) rfl<|s_on rfl<|l7 (.int .i64 j_864) rfl<|s_on rfl<|?_
       obtain ⟨g911,hb2⟩:=og hb2
       refine o8 (a2i rfl rfl g911.1 g911.2 rfl rfl)<|s_on rfl<|?_
       obtain ⟨x_912,ex913,hb2⟩:=ob hb2
       refine o8 (a3r (enc:=AV.str) (v:=(.str x_912)) rfl rfl ex913 ⟨rfl,rfl⟩ rfl)<|s_on rfl<|l7 (.own 0 0 data_865.length) rfl<|s_on rfl<|l7 (.int .i64 j_864) rfl<|s_on rfl<|o7 (.int .i64 (w64 (j_864 - 1))) rfl rfl rfl<|s_on rfl<|?_
       obtain ⟨g914,hb2⟩:=og hb2
       refine o8 (a2i rfl rfl g914.1 g914.2 rfl rfl)<|s_on rfl<|?_
       obtain ⟨x_915,ex916,hb2⟩:=ob hb2
       refine o8 (a3r (enc:=AV.str) (v:=(.str x_915)) rfl rfl ex916 ⟨rfl,rfl⟩ rfl)<|d0v rfl<|?_
       obtain ⟨r_917,er918,hb2⟩:=ob hb2
       refine a1r (a1f (b9o _ _ _ er918) rfl (.refl _) rfl) a9t trivial<|o7 (.bool r_917) rfl trivial rfl<|a0e<|?_;obtain rfl:=os hb2;exact ⟨[],[0],_,_,rfl,rfl,⟨.refl _,⟨.refl _,⟨.refl _,⟨.refl _,⟨.refl _,⟨.refl _,trivial⟩⟩⟩⟩⟩⟩,(.refl _)⟩
      ·refine a1k (s:=19) (b:=false) rfl (bf c910)<|a0a rfl rfl<|a0a rfl rfl<|a0a rfl rfl<|a0a rfl rfl<|a0a rfl rfl<|a0a rfl rfl<|a0a rfl rfl<|a0a rfl rfl<|a0a rfl rfl<|c4i rfl rfl trivial<|o7 (.bool false) rfl trivial rfl<|a0e<|?_;obtain rfl:=os hb2;exact ⟨[],[0],_,_,rfl,rfl,⟨.refl _,⟨.refl _,⟨.refl _,⟨.refl _,⟨.refl _,⟨.refl _,trivial⟩⟩⟩⟩⟩⟩,(.refl _)⟩
     ·rcases oi hc1 with ⟨c919,hc1⟩ | ⟨c919,hc1⟩
      ·refine a0b rfl c919<|a0i<|a0h<|o6<|a3s<|a0z<|l7 (.own 0 0 data_865.length) rfl<|l7 (.int .i64 j_864) rfl<|l7 (.own 0 0 data_865.length) rfl<|l7 (.int .i64 j_864) rfl<|o7 (.int .i64 (w64 (j_864 - 1))) rfl rfl rfl<|l7 (.own 0 0 data_865.length) rfl<|l7 (.int .i64 j_864) rfl<|o7 (.int .i64 (w64 (j_864 - 1))) rfl rfl rfl<|?_
       obtain ⟨g920,hc1⟩:=og hc1
       refine o8 (a2i rfl rfl g920.1 g920.2 rfl rfl) ?_
       obtain ⟨x_921,ex922,hc1⟩:=ob hc1
       refine o8 (a3r (enc:=AV.str) (v:=(.str x_921)) rfl rfl ex922 ⟨rfl,rfl⟩ rfl)<|l7 (.own 0 0 data_865.length) rfl<|l7 (.int .i64 j_864) rfl<|?_
       obtain ⟨g923,hc1⟩:=og hc1
       refine o8 (a2i rfl rfl g923.1 g923.2 rfl rfl) ?_
       obtain ⟨x_924,ex925,hc1⟩:=ob hc1
       refine o8 (a3r (enc:=AV.str) (v:=(.str x_924)) rfl rfl ex925 ⟨rfl,rfl⟩ rfl) ?_
       obtain ⟨g926,hc1⟩:=og hc1
       refine o8 (a2i rfl rfl g926.1 g926.2 rfl rfl) ?_;refine a6g (b1a (v':=(.str x_921)) (e':=x_921) rfl rfl ex925 rfl rfl rfl (by decide) (fun _ => by decide) ⟨rfl,rfl,rfl⟩ (.refl _) rfl) trivial trivial ?_
       obtain ⟨g927,hc1⟩:=og hc1
       refine o8 (a2i rfl rfl g927.1 g927.2 rfl rfl) ?_
       obtain ⟨x_928,ex929,hc1⟩:=ob hc1
       refine a6g (b1a (v':=(.str x_924)) (e':=x_924) rfl rfl ex929 rfl rfl rfl (by decide) (fun _ => by decide) ⟨rfl,rfl,rfl⟩ (.refl _) rfl) trivial trivial ?_;refine a0e<|a3l<|a0h<|a0z<|l7 (.int .i64 j_864) rfl<|o7 (.int .i64 (w64 (j_864 - 1))) rfl rfl rfl<|l7 (.int .i64 (w64 (j_864 - 1))) rfl<|a0e<|?_;exact a2p ⟨(k,w64 (j_864 - 1),(data_865.set (0 + j_864.toNat) x_921).set (0 + (w64 (j_864 - 1)).toNat) x_924),hc1⟩ (Nat.lt_succ_self _) ⟨[],[0],_,_,rfl,rfl,⟨.of_eq (congrArg (AV.own _ 0) (by simp)),⟨.refl _,⟨.refl _,⟨.refl _,⟨.refl _,trivial⟩⟩⟩⟩⟩,(.refl _)⟩
      ·refine a0c rfl (bf c919)<|a4b<|a4a<|a2w<|a3z<|?_;refine a3l ?_;obtain rfl:=os hc1;exact ⟨[],[0],_,_,rfl,rfl,⟨.refl _,⟨.refl _,⟨.refl _,⟨.refl _,trivial⟩⟩⟩⟩,(.refl _)⟩
   ·refine a0z<|l7 (.int .i64 i_665) rfl<|o7 (.int .i64 (w64 (i_665 + 1))) rfl rfl rfl<|l7 (.int .i64 (w64 (i_665 + 1))) rfl<|a0e<|?_;exact a2p ⟨(k,w64 (i_665 + 1),data_897),hc1⟩ (Nat.lt_succ_self _) ⟨[],[0],_,_,rfl,rfl,⟨.refl _,⟨.refl _,⟨.refl _,⟨.refl _,trivial⟩⟩⟩⟩,(.refl _)⟩
  ·refine a0c rfl (bf c799)<|a4b<|a4a<|a2w<|a3z<|?_;obtain rfl:=os hc1;exact a3a [] [0] rfl trivial rfl (.refl _) (.refl _)

/- slices.pdqsortOrdered[string] -/
def d4i:a0p :=
 (.seq (.reg (tm 8 (.c (.bool true)) .done))
 (.seq (.reg (tm 9 (.c (.bool true)) .done))
 (.block 0 (.loop (.block 1 (.seq (.reg (tm 19 (.t 2) (tm 20 (.t 1) (tq 21 (.bin .sub (.t 19) (.t 20)) (tm 10 (.t 21) .done)))))
 (.seq (.seq (.reg (tm 22 (.t 10) (tq 23 (.bin .leq (.t 22) (.c (.int .i64 12))) .done)))
 (.cond (.t 23) (.seq (.reg (tm 24 (.t 0) (tm 25 (.t 1) (tm 26 (.t 2) (tq 27 (.call 335 [(.t 24),(.t 25),(.t 26)]) .done)))))
 .ret)
 .skip))
 (.seq (.seq (.reg (tm 28 (.t 3) (tq 29 (.bin .eql (.t 28) (.c (.int .i64 0))) .done)))
 (.cond (.t 29) (.seq (.reg (tm 30 (.t 0) (tm 31 (.t 1) (tm 32 (.t 2) (tq 33 (.call 336 [(.t 30),(.t 31),(.t 32)]) .done)))))
 .ret)
 .skip))
 (.seq (.seq (.reg (tm 34 (.t 8) (tq 35 (.not (.t 34)) .done)))
 (.cond (.t 35) (.seq (.reg (tm 36 (.t 0) (tm 37 (.t 1) (tm 38 (.t 2) (tq 39 (.call 337 [(.t 36),(.t 37),(.t 38)]) .done)))))
 (.reg (tm 40 (.t 3) (tq 41 (.bin .sub (.t 40) (.c (.int .i64 1))) (tm 3 (.t 41) .done)))))
 .skip))
 (.seq (.reg (tm 43 (.t 0) (tm 44 (.t 1) (tm 45 (.t 2) (tq 46 (.call 338 [(.t 43),(.t 44),(.t 45)]) (tm 42 (.t 46) (tq 47 (.extract 0 (.t 42)) (tq 48 (.extract 1 (.t 42)) (tm 11 (.t 47) (tm 12 (.t 48) .done))))))))))
 (.seq (.seq (.reg (tm 49 (.t 12) (tq 50 (.bin .eql (.t 49) (.c (.int .i64 2))) .done)))
 (.cond (.t 50) (.seq (.reg (tm 51 (.t 0) (tm 52 (.t 1) (tm 53 (.t 2) (tq 54 (.call 339 [(.t 51),(.t 52),(.t 53)]) .done)))))
 (.seq (.reg (tm 55 (.t 2) (tq 56 (.bin .sub (.t 55) (.c (.int .i64 1))) (tm 57 (.t 11) (tm 58 (.t 1) (tq 59 (.bin .sub (.t 57) (.t 58)) (tq 60 (.bin .sub (.t 56) (.t 59)) (tm 11 (.t 60) .done))))))))
 (.reg (tm 12 (.c (.int .i64 1)) .done))))
 .skip))
 (.seq (.seq (.reg (tm 61 (.t 8) (tm 62 (.t 61) (tg 63 62 true (.mov (.t 9)) (tq 64 (.pick (.t 62) (.t 63) (.c (.bool false))) (tm 65 (.t 64) (tg 66 65 true (.mov (.t 12)) (tg 67 65 true (.bin .eql (.t 66) (.c (.int .i64 1))) (tq 68 (.pick (.t 65) (.t 67) (.c (.bool false))) .done)))))))))
 (.cond (.t 68) (.seq (.reg (tm 69 (.t 0) (tm 70 (.t 1) (tm 71 (.t 2) (tq 72 (.call 340 [(.t 69),(.t 70),(.t 71)]) .done)))))
 (.cond (.t 72) .ret
 .skip))
 .skip))
 (.seq (.seq (.reg (tm 73 (.t 1) (tq 74 (.bin .gtr (.t 73) (.c (.int .i64 0))) (tm 75 (.t 74) (tg 76 75 true (.mov (.t 0)) (tg 77 75 true (.mov (.t 1)) (tg 78 75 true (.bin .sub (.t 77) (.c (.int .i64 1))) (tg 79 75 true (.iaddr 1 (.t 76) (.t 78)) (tg 80 75 true (.load 1 false (.t 79)) (tg 81 75 true (.mov (.t 0)) (tg 82 75 true (.mov (.t 11)) (tg 83 75 true (.iaddr 1 (.t 81) (.t 82)) (tg 84 75 true (.load 1 false (.t 83)) (.l ⟨(some 85),(some (75,true)),.call 341 [(.t 80),(.t 84)]⟩ []
 (tg 86 75 true (.not (.t 85)) (tq 87 (.pick (.t 75) (.t 86) (.c (.bool false))) .done)) .non))))))))))))))
 (.cond (.t 87) (.seq (.reg (tm 88 (.t 0) (tm 89 (.t 1) (tm 90 (.t 2) (tm 91 (.t 11) (tq 92 (.call 342 [(.t 88),(.t 89),(.t 90),(.t 91)]) (tm 13 (.t 92) .done)))))))
 (.seq (.reg (tm 93 (.t 13) (tm 1 (.t 93) .done)))
 (.exit 1)))
 .skip))
 (.seq (.reg (tm 95 (.t 0) (tm 96 (.t 1) (tm 97 (.t 2) (tm 98 (.t 11) (tq 99 (.call 343 [(.t 95),(.t 96),(.t 97),(.t 98)]) (tm 94 (.t 99) (tq 100 (.extract 0 (.t 94)) (tq 101 (.extract 1 (.t 94)) (tm 14 (.t 100) (tm 15 (.t 101) .done)))))))))))
 (.seq (.reg (tm 102 (.t 15) (tm 9 (.t 102) .done)))
 (.seq (.reg (tm 103 (.t 14) (tm 104 (.t 1) (tq 105 (.bin .sub (.t 103) (.t 104)) (tm 106 (.t 2) (tm 107 (.t 14) (tq 108 (.bin .sub (.t 106) (.t 107)) (tm 16 (.t 105) (tm 17 (.t 108) .done)))))))))
 (.seq (.reg (tm 109 (.t 10) (tq 110 (.bin .quo (.t 109) (.c (.int .i64 8))) (tm 18 (.t 110) .done))))
 (.seq (.reg (tm 111 (.t 16) (tm 112 (.t 17) (tq 113 (.bin .lss (.t 111) (.t 112)) .done))))
 (.cond (.t 113) (.seq (.reg (tm 114 (.t 16) (tm 115 (.t 18) (tq 116 (.bin .geq (.t 114) (.t 115)) (tm 8 (.t 116) .done)))))
 (.seq (.reg (tm 117 (.t 0) (tm 118 (.t 1) (tm 119 (.t 14) (tm 120 (.t 3) (tq 121 (.call 287 [(.t 117),(.t 118),(.t 119),(.t 120)]) .done))))))
 (.reg (tm 122 (.t 14) (tq 123 (.bin .add (.t 122) (.c (.int .i64 1))) (tm 1 (.t 123) .done))))))
 (.seq (.reg (tm 124 (.t 17) (tm 125 (.t 18) (tq 126 (.bin .geq (.t 124) (.t 125)) (tm 8 (.t 126) .done)))))
 (.seq (.reg (tm 127 (.t 0) (tm 128 (.t 14) (tq 129 (.bin .add (.t 128) (.c (.int .i64 1))) (tm 130 (.t 2) (tm 131 (.t 3) (tq 132 (.call 287 [(.t 127),(.t 129),(.t 130),(.t 131)]) .done)))))))
 (.reg (tm 133 (.t 14) (tm 2 (.t 133) .done))))))))))))))))))))))))
theorem d8i:a1b Tryz.prog Tryz.f287 = some (d4i.erase,[],134):=by kernel_rfl
def a1s (b_3:Int) (a_2:Int) (data_1:(List Str)):Nat → Option (List Str)
  | 0 => none
  | k + 1 =>
    if (decide (w64 (b_3 - a_2) ≤ 12)) then
    (a2h data_1 a_2 b_3).bind fun r_15 =>
    some r_15
    else
    none

def a3q (rec:((List Str) → Int → Int → Int → Option (List Str))) (data_1:(List Str)) (a_2:Int) (b_3:Int) (limit_4:Int):Option (List Str) :=
    a1s b_3 a_2 data_1 FUEL 
theorem a9i (rec:((List Str) → Int → Int → Int → Option (List Str))) (hrec:∀ a0 a1 a2 a3 r,rec a0 a1 a2 a3 = some r → a0j Tryz.prog true 287 [(.own 0 0 a0.length),(.int .i64 a1),(.int .i64 a2),(.int .i64 a3)] [.row 1 (a0.map AV.str)] (.tup []) [.row 1 (r.map AV.str)]) (data_1:(List Str)) (a_2:Int) (b_3:Int) (limit_4:Int) (r:(List Str)) (hf:a3q rec data_1 a_2 b_3 limit_4 = some r):a0j Tryz.prog true 287 [(.own 0 0 data_1.length),(.int .i64 a_2),(.int .i64 b_3),(.int .i64 limit_4)] [.row 1 (data_1.map AV.str)] (.tup []) [.row 1 (r.map AV.str)]:=by
 refine a0j.of_awp mixed Tryz.func287 d8i nle ?_;rw [a0f];unfold a3q at hf;unfold d4i;refine (show awp Tryz.prog true 1 _ (ofL [(0,(.own 0 0 data_1.length)),(1,(.int .i64 a_2)),(2,(.int .i64 b_3)),(3,(.int .i64 limit_4))]) [.row 1 (data_1.map AV.str)] _ from ?_);refine sr<|l7 (.bool true) rfl<|dk<|sr<|l7 (.bool true) rfl<|dk<|?_;refine a1v (X:={q:Nat // a1s b_3 a_2 data_1 q = some r}) (fun q => ([(0,(.own 0 0 data_1.length)),(1,(.int .i64 a_2)),(2,(.int .i64 b_3)),(3,(.int .i64 limit_4)),(8,(.bool true)),(9,(.bool true))],[.row 1 (data_1.map AV.str)])) (fun q => q.1) ⟨FUEL,hf⟩ ⟨[],[0],_,_,rfl,rfl,⟨.refl _,⟨.refl _,⟨.refl _,⟨.refl _,⟨.refl _,⟨.refl _,trivial⟩⟩⟩⟩⟩⟩,(.refl _)⟩ ?_
 rintro ⟨k,hc1⟩
 have hc1:a1s b_3 a_2 data_1 k  = some r:=hc1
 refine (show awp Tryz.prog true 1 _ (ofL [(0,(.own 0 0 data_1.length)),(1,(.int .i64 a_2)),(2,(.int .i64 b_3)),(3,(.int .i64 limit_4)),(8,(.bool true)),(9,(.bool true))]) [.row 1 (data_1.map AV.str)] _ from ?_)
 rcases k with _ | k
 ·rw [a1s.eq_1] at hc1
  cases hc1
 ·rw [a1s.eq_2] at hc1;refine a3s<|sr<|l7 (.int .i64 b_3) rfl<|l7 (.int .i64 a_2) rfl<|o7 (.int .i64 (w64 (b_3 - a_2))) rfl rfl rfl<|l7 (.int .i64 (w64 (b_3 - a_2))) rfl<|dk<|o6<|sr<|l7 (.int .i64 (w64 (b_3 - a_2))) rfl<|o7 (.bool (decide (w64 (b_3 - a_2) ≤ 12))) rfl rfl rfl<|dk<|?_
  rcases oi hc1 with ⟨c14,hc1⟩ | ⟨c14,hc1⟩
  ·refine a0b rfl c14<|sr<|?_
   obtain ⟨r_15,er16,hc1⟩:=ob hc1
   refine l7 (.own 0 0 data_1.length) rfl<|l7 (.int .i64 a_2) rfl<|l7 (.int .i64 b_3) rfl<|?_;refine a1n (b4b (v:=(.tup [])) (h2:=[.row 1 (r_15.map AV.str)]) [] [0] (fun _ => rfl) (a8j _ _ _ _ er16) rfl (.refl _) (.refl _) rfl rfl) fun hl17 => ?_;refine dk<|a0d<|?_;obtain rfl:=os hc1;exact a3a [] [0] rfl trivial rfl (.refl _) (.refl _)
  ·cases hc1
def a1u:Nat → (List Str) → Int → Int → Int → Option (List Str)
 | 0,_,_,_,_ => none
 | k + 1,data_1,a_2,b_3,limit_4 => a3q (a1u k) data_1 a_2 b_3 limit_4
theorem a6j:∀ (k:Nat) (data_1:(List Str)) (a_2:Int) (b_3:Int) (limit_4:Int) (r:(List Str)),a1u k data_1 a_2 b_3 limit_4 = some r → a0j Tryz.prog true 287 [(.own 0 0 data_1.length),(.int .i64 a_2),(.int .i64 b_3),(.int .i64 limit_4)] [.row 1 (data_1.map AV.str)] (.tup []) [.row 1 (r.map AV.str)]
 | 0,data_1,a_2,b_3,limit_4,r,h => by rw [a1u.eq_1] at h;cases h
 | k + 1,data_1,a_2,b_3,limit_4,r,h => by
  rw [a1u.eq_2] at h;exact a9i _ (a6j k) data_1 a_2 b_3 limit_4 r h

end Go.R
