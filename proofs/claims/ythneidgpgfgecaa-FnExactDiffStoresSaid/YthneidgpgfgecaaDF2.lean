/- Walks. -/
import Derived.Test.YthneidgpgfgecaaDF1
set_option linter.all false
namespace Go.R
open Go Go.Proofs
set_option linter.unusedVariables false
set_option linter.unusedSimpArgs false
set_option maxHeartbeats 8000000
/- slices.Concat[[]impl.Row,impl.Row] -/
def c92:a0r :=
 (.seq (.reg (tm 2 (.c .nil) .done))
 (.seq (.reg (tm 3 (.c (.int .i64 0)) .done))
 (.seq (.seq (.reg (tm 9 (.t 0) (tq 10 (.len (.t 9)) (tm 11 (.c (.int .i64 0)) .done))))
 (.block 0 (.loop (.seq (.reg (tq 12 (.bin .lss (.t 11) (.t 10)) .done))
 (.seq (.cond (.t 12) .skip
 (.exit 0))
 (.seq (.block 1 (.seq (.reg (tq 13 (.iaddr 1 (.t 9) (.t 11)) (tq 14 (.load 1 false (.t 13)) (tm 5 (.t 14) .done))))
 (.seq (.reg (tm 15 (.t 3) (tm 16 (.t 5) (tq 17 (.len (.t 16)) (tq 18 (.bin .add (.t 15) (.t 17)) (tm 3 (.t 18) .done))))))
 (.seq (.reg (tm 19 (.t 3) (tq 20 (.bin .lss (.t 19) (.c (.int .i64 0))) .done)))
 (.cond (.t 20) (.reg (tq 21 (.never) (.q ⟨none,none,.never⟩
 .done)))
 .skip)))))
 (.reg (tq 22 (.bin .add (.t 11) (.c (.int .i64 1))) (tm 11 (.t 22) .done)))))))))
 (.cut (.seq (.reg (tm 23 (.t 3) (tq 24 (.call 107 [(.c .nil),(.t 23)]) (tm 6 (.t 24) .done))))
 (.seq (.seq (.reg (tm 25 (.t 0) (tq 26 (.len (.t 25)) (tm 27 (.c (.int .i64 0)) .done))))
 (.block 2 (.loop (.seq (.reg (tq 28 (.bin .lss (.t 27) (.t 26)) .done))
 (.seq (.cond (.t 28) .skip
 (.exit 2))
 (.seq (.block 3 (.seq (.reg (tq 29 (.iaddr 1 (.t 25) (.t 27)) (tq 30 (.load 1 false (.t 29)) (tm 8 (.t 30) .done))))
 (.reg (tm 31 (.t 6) (tm 32 (.t 8) (tq 33 (.append 2 32 (.t 31) (.t 32)) (tm 6 (.t 33) .done)))))))
 (.reg (tq 34 (.bin .add (.t 27) (.c (.int .i64 1))) (tm 27 (.t 34) .done)))))))))
 (.cut (.seq (.reg (tm 35 (.t 6) (tm 2 (.t 35) .done)))
 .ret))))))))
theorem e0a:a1p Try.prog Try.f92 = some (c92.erase,[.mov (.t 2)],36):=by kernel_rfl
def a0u :List (List x9) → Int → Option Int
  | [],size_15 =>
    some size_15
  | x_30 :: xs,size_15 =>
    if (decide (w64 (size_15 + (x_30.length:Int)) < 0)) then
    none
    else
    a0u xs (w64 (size_15 + (x_30.length:Int))) 

def a0v :List (List x9) → (List x9) → Option (List x9)
  | [],newslice_47 =>
    some newslice_47
  | x_60 :: xs,newslice_47 =>
    if (newslice_47 ++ x_60).length ≤ 2 ^ 30 then
    a0v xs  (newslice_47 ++ x_60)
    else none

def a2f (slices_1:(List (List x9))):Option (List x9) :=
    (a0u slices_1 0).bind fun size_22 =>
    (a2b size_22).bind fun r_33 =>
    (a0v slices_1 r_33).bind fun newslice_52 =>
    some newslice_52
theorem a8x (slices_1:(List (List x9))) (r:(List x9)) (hf:a2f slices_1 = some r):a0d Try.prog 92 .weak [(.lst 1 (slices_1.map (o8 2 l9)))] (.lst 2 (r.map l9)):=by
 refine a0d.of_awp mixed Try.func92 e0a nle ?_;rw [a0t];unfold a2f at hf;unfold c92;refine (show awp Try.prog false 0 _ (ofL [(0,(.lst 1 (slices_1.map (o8 2 l9))))]) [] _ from ?_);refine sr<|l7 .nil rfl<|dk<|sr<|l7 (.int .i64 0) rfl<|dk<|o6<|sr<|l7 (.lst 1 (slices_1.map (o8 2 l9))) rfl<|a0o (a1c (enc:=(o8 2 l9)) rfl) fun hl2 => l7 (.int .i64 0) rfl<|dk<|?_
 obtain ⟨size_22,hb1,hf⟩:=ob hf
 refine a2e ([(0,(.lst 1 (slices_1.map (o8 2 l9)))),(3,(.int .i64 size_22))],[]) ?_ ?_
 ·refine a0z (X:={q:(Int × Nat) // a0u (slices_1.drop q.2) q.1 = some size_22}) (fun q => ([(0,(.lst 1 (slices_1.map (o8 2 l9)))),(3,(.int .i64 q.1.1)),(9,(.lst 1 (slices_1.map (o8 2 l9)))),(10,(.int .i64 (slices_1.length:Int))),(11,(.int .i64 (q.1.2:Int)))],[])) (fun q => slices_1.length - q.1.2) ⟨(0,0),hb1⟩ ⟨[],[],_,_,rfl,rfl,⟨.refl _,⟨.refl _,⟨.refl _,⟨.refl _,⟨.refl _,trivial⟩⟩⟩⟩⟩,(.refl _)⟩ ?_
  rintro ⟨⟨size_15,s11_16⟩,hc1⟩
  have hc1:a0u (slices_1.drop s11_16) size_15 = some size_22:=hc1
  refine (show awp Try.prog false 0 _ (ofL [(0,(.lst 1 (slices_1.map (o8 2 l9)))),(3,(.int .i64 size_15)),(9,(.lst 1 (slices_1.map (o8 2 l9)))),(10,(.int .i64 (slices_1.length:Int))),(11,(.int .i64 (s11_16:Int)))]) [] _ from ?_)
  rcases a5c slices_1 s11_16 with ⟨hie26,hd29⟩ | ⟨hlt24,x_30,hx25,hd29⟩
  ·rw [hd29,a0u.eq_1] at hc1
   have hq28:=dlf hie26
   refine sr<|y8 (.bool (decide ((s11_16:Int) < (slices_1.length:Int)))) rfl rfl rfl<|dk<|o6<|y7 rfl hq28<|a1y<|a1x<|a1i<|a1w<|?_;obtain rfl:=os hc1;exact ⟨[],[],_,_,rfl,rfl,⟨.refl _,⟨.refl _,trivial⟩⟩,(.refl _)⟩
  ·rw [hd29,a0u.eq_2] at hc1
   have hq28:=dlt hlt24
   refine sr<|y8 (.bool (decide ((s11_16:Int) < (slices_1.length:Int)))) rfl rfl rfl<|dk<|o6<|y5 rfl hq28<|a0e<|a0g<|o6<|a3j<|sr<|a0b (a1a (enc:=(o8 2 l9)) rfl rfl hx25)<|y8 (.lst 2 (x_30.map l9)) rfl ⟨rfl,rfl⟩ rfl<|l7 (.lst 2 (x_30.map l9)) rfl<|dk<|sr<|l7 (.int .i64 size_15) rfl<|l7 (.lst 2 (x_30.map l9)) rfl<|a0o (a1c (enc:=l9) rfl) fun hl31 => y8 (.int .i64 (w64 (size_15 + (x_30.length:Int)))) rfl rfl rfl<|l7 (.int .i64 (w64 (size_15 + (x_30.length:Int)))) rfl<|dk<|sr<|l7 (.int .i64 (w64 (size_15 + (x_30.length:Int)))) rfl<|?_
   refine y8 (.bool (decide (w64 (size_15 + (x_30.length:Int)) < 0))) rfl rfl rfl<|dk<|?_
   rcases oi hc1 with ⟨c32,hc1⟩ | ⟨c32,hc1⟩
   ·refine y5 rfl c32<|a0y<|?_
    cases hc1
   ·refine y7 rfl (bf c32)<|a0e<|a2s<|a0g<|a0y<|y8 (.int .i64 (w64 ((s11_16:Int) + 1))) rfl rfl rfl<|l7 (.int .i64 (w64 ((s11_16:Int) + 1))) rfl<|a0m<|?_;exact a1e ⟨(w64 (size_15 + (x_30.length:Int)),(s11_16 + 1)),hc1⟩ (mul hlt24) ⟨[],[],_,_,rfl,rfl,⟨.refl _,⟨.refl _,⟨.refl _,⟨.refl _,⟨.of_eq (congrArg (AV.int _) (a1j hlt24 hl2)),trivial⟩⟩⟩⟩⟩,(.refl _)⟩
 ·refine sr<|?_
  obtain ⟨r_33,er34,hf⟩:=ob hf
  refine l7 (.int .i64 size_22) rfl ?_;refine a0b (b9p (v:=(.own 0 0 r_33.length)) (h2:=[.row 2 (r_33.map l9)]) [] [] (fun _ => rfl) (a8o _ _ er34) rfl (.refl _) (.refl _) rfl rfl) ?_;refine l7 (.own 0 0 r_33.length) rfl<|dk<|o6<|sr<|l7 (.lst 1 (slices_1.map (o8 2 l9))) rfl<|a0o (a1c (enc:=(o8 2 l9)) rfl) fun hl35 => l7 (.int .i64 0) rfl<|dk<|?_
  obtain ⟨newslice_52,hb1,hf⟩:=ob hf
  refine a2e ([(6,(.own 0 0 newslice_52.length))],[.row 2 (newslice_52.map l9)]) ?_ ?_
  ·refine a0z (X:={q:(Nat × (List x9)) // a0v (slices_1.drop q.1) q.2 = some newslice_52}) (fun q => ([(6,(.own 0 0 q.1.2.length)),(25,(.lst 1 (slices_1.map (o8 2 l9)))),(26,(.int .i64 (slices_1.length:Int))),(27,(.int .i64 (q.1.1:Int)))],[.row 2 (q.1.2.map l9)])) (fun q => slices_1.length - q.1.1) ⟨(0,r_33),hb1⟩ ⟨[],[0],_,_,rfl,rfl,⟨.refl _,⟨.refl _,⟨.refl _,⟨.refl _,trivial⟩⟩⟩⟩,(.refl _)⟩ ?_
   rintro ⟨⟨s27_46,newslice_47⟩,hc1⟩
   have hc1:a0v (slices_1.drop s27_46) newslice_47 = some newslice_52:=hc1
   refine (show awp Try.prog false 0 _ (ofL [(6,(.own 0 0 newslice_47.length)),(25,(.lst 1 (slices_1.map (o8 2 l9)))),(26,(.int .i64 (slices_1.length:Int))),(27,(.int .i64 (s27_46:Int)))]) [.row 2 (newslice_47.map l9)] _ from ?_)
   rcases a5c slices_1 s27_46 with ⟨hie56,hd59⟩ | ⟨hlt54,x_60,hx55,hd59⟩
   ·rw [hd59,a0v.eq_1] at hc1
    have hq58:=dlf hie56
    refine sr<|y8 (.bool (decide ((s27_46:Int) < (slices_1.length:Int)))) rfl rfl rfl<|dk<|o6<|y7 rfl hq58<|a1y<|a1x<|a1i<|a1w<|?_;obtain rfl:=os hc1;exact ⟨[],[0],_,_,rfl,rfl,⟨.refl _,trivial⟩,(.refl _)⟩
   ·rw [hd59,a0v.eq_2] at hc1
    have hq58:=dlt hlt54
    refine sr<|y8 (.bool (decide ((s27_46:Int) < (slices_1.length:Int)))) rfl rfl rfl<|dk<|o6<|y5 rfl hq58<|a0e<|a0g<|o6<|a3j<|sr<|a0b (a1a (enc:=(o8 2 l9)) rfl rfl hx55)<|y8 (.lst 2 (x_60.map l9)) rfl ⟨rfl,rfl⟩ rfl<|l7 (.lst 2 (x_60.map l9)) rfl<|dk<|a0y<|?_
    obtain ⟨g61,hc1⟩:=og hc1
    refine l7 (.own 0 0 newslice_47.length) rfl<|l7 (.lst 2 (x_60.map l9)) rfl<|?_
    refine a0b (d0w (j:=1) (L:=((newslice_47 ++ x_60).map l9)) (len:=(newslice_47 ++ x_60).length) rfl rfl (apl (enc:=l9) newslice_47 x_60) (by simp <;> omega) g61 rfl rfl) ?_
    refine l7 (.own 1 0 ((newslice_47 ++ x_60).length)) rfl<|a0m<|a2s<|a0g<|a0y<|y8 (.int .i64 (w64 ((s27_46:Int) + 1))) rfl rfl rfl<|l7 (.int .i64 (w64 ((s27_46:Int) + 1))) rfl<|a0m<|?_;exact a1e ⟨((s27_46 + 1),newslice_47 ++ x_60),hc1⟩ (mul hlt54) ⟨[],[1],_,_,rfl,rfl,⟨.refl _,⟨.refl _,⟨.refl _,⟨.of_eq (congrArg (AV.int _) (a1j hlt54 hl35)),trivial⟩⟩⟩⟩,(.refl _)⟩
  ·refine sr<|l7 (.own 0 0 newslice_52.length) rfl<|l7 (.own 0 0 newslice_52.length) rfl<|dk<|a0k<|?_;obtain rfl:=os hf;exact d6y ⟨trivial,trivial⟩ rfl (.of_eq (congrArg (AV.lst _) (tko (enc:=l9) newslice_52)))

/- cmp.isNaN[int] -/
def c130:a0r :=
 (.seq (.reg (tm 2 (.c (.bool false)) .done))
 (.seq (.reg (tm 3 (.t 0) (tm 4 (.t 0) (tq 5 (.bin .neq (.t 3) (.t 4)) (tm 2 (.t 5) .done)))))
 .ret))
theorem d8h:a1p Try.prog Try.f130 = some (c130.erase,[.mov (.t 2)],6):=by kernel_rfl
def cmp_isNaN_int (x_1:Int):Option Bool :=
    some (x_1 != x_1)
theorem b2z (x_1:Int) (r:Bool) (hf:cmp_isNaN_int x_1 = some r):a0d Try.prog 130 .flat [(.int .i64 x_1)] (.bool r):=by
  refine a0d.of_awp mixed Try.func130 d8h nle ?_
  rw [a0t]
  unfold cmp_isNaN_int at hf
  unfold c130
  refine (show awp Try.prog false 0 _ (ofL [(0,(.int .i64 x_1))]) [] _ from ?_)
  refine o6 ?_
  refine a0y ?_
  refine a0b (b0c (.bool false) rfl) ?_
  refine a0m ?_
  refine a0g ?_
  refine o6 ?_
  refine a0y ?_
  refine a0b (b0c (.int .i64 x_1) rfl) ?_
  refine a0b (b0c (.int .i64 x_1) rfl) ?_
  refine a0b (o_q (.bool (x_1 != x_1)) rfl rfl rfl) ?_
  refine a0b (b0c (.bool (x_1 != x_1)) rfl) ?_
  refine a0m ?_
  refine a0g ?_
  refine a0k ?_
  obtain rfl:=os hf
  exact a0l ⟨trivial,trivial⟩ rfl (.refl _)

/- slices.Sort[[]int,int] -/
def a5n (a0:List Int):Option (List Int) :=
    if a0.length ≤ 2 ^ 30 then
    some (a0.mergeSort fun x y => decide (x ≤ y))
    else none
/- HAND -/
theorem b1x (a0:List Int) (r:List Int) (hf:a5n a0 = some r):a1l Try.prog true 93 [.own 0 0 a0.length] [.row 1 (a0.map (AV.int .i64))] (.tup []) [.row 1 (r.map (AV.int .i64))]:=by
  unfold a5n at hf
  split at hf
  · rename_i h
    obtain rfl:=os hf
    exact d5c true a0 h
  · cases hf

/- slices.Compact[[]int,int] -/
def d3c:a0r :=
 (.seq (.reg (tm 2 (.c .nil) .done))
 (.seq (.seq (.reg (tm 6 (.t 0) (tq 7 (.len (.t 6)) (tq 8 (.bin .lss (.t 7) (.c (.int .i64 2))) .done))))
 (.cond (.t 8) (.seq (.reg (tm 9 (.t 0) (tm 2 (.t 9) .done)))
 .ret)
 .skip))
 (.seq (.seq (.reg (tm 3 (.c (.int .i64 1)) .done))
 (.block 0 (.loop (.seq (.seq (.reg (tm 10 (.t 3) (tm 11 (.t 0) (tq 12 (.len (.t 11)) (tq 13 (.bin .lss (.t 10) (.t 12)) .done)))))
 (.cond (.t 13) .skip
 (.exit 0)))
 (.seq (.block 1 (.seq (.reg (tm 16 (.t 0) (tm 17 (.t 3) (tq 18 (.iaddr 1 (.t 16) (.t 17)) (tq 19 (.load 1 false (.t 18)) (tm 20 (.t 0) (tm 21 (.t 3) (tq 22 (.bin .sub (.t 21) (.c (.int .i64 1))) (tq 23 (.iaddr 1 (.t 20) (.t 22)) (tq 24 (.load 1 false (.t 23)) (tq 25 (.bin .eql (.t 19) (.t 24)) .done)))))))))))
 (.cond (.t 25) (.seq (.reg (tm 26 (.t 0) (tm 27 (.t 3) (tq 28 (.slice 1 (.t 26) (some (.t 27)) none) (tm 4 (.t 28) .done)))))
 (.seq (.seq (.reg (tm 5 (.c (.int .i64 1)) .done))
 (.block 2 (.loop (.seq (.seq (.reg (tm 29 (.t 5) (tm 30 (.t 4) (tq 31 (.len (.t 30)) (tq 32 (.bin .lss (.t 29) (.t 31)) .done)))))
 (.cond (.t 32) .skip
 (.exit 2)))
 (.seq (.block 3 (.seq (.reg (tm 35 (.t 4) (tm 36 (.t 5) (tq 37 (.iaddr 1 (.t 35) (.t 36)) (tq 38 (.load 1 false (.t 37)) (tm 39 (.t 4) (tm 40 (.t 5) (tq 41 (.bin .sub (.t 40) (.c (.int .i64 1))) (tq 42 (.iaddr 1 (.t 39) (.t 41)) (tq 43 (.load 1 false (.t 42)) (tq 44 (.bin .neq (.t 38) (.t 43)) .done)))))))))))
 (.cond (.t 44) (.seq (.reg (tm 45 (.t 0) (tm 46 (.t 3) (tm 47 (.t 4) (tm 48 (.t 5) (tq 49 (.iaddr 1 (.t 47) (.t 48)) (tq 50 (.load 1 false (.t 49)) (tq 51 (.iaddr 1 (.t 45) (.t 46)) (.q ⟨none,none,.store 1 (.t 51) (.t 50)⟩
 .done)))))))))
 (.reg (tm 52 (.t 3) (tq 53 (.bin .add (.t 52) (.c (.int .i64 1))) (tm 3 (.t 53) .done)))))
 .skip)))
 (.reg (tm 33 (.t 5) (tq 34 (.bin .add (.t 33) (.c (.int .i64 1))) (tm 5 (.t 34) .done)))))))))
 (.cut (.seq (.reg (tm 54 (.t 0) (tm 55 (.t 3) (tq 56 (.slice 1 (.t 54) (some (.t 55)) none) (.q ⟨none,none,.clr 1 (.int .i64 0) (.t 56)⟩
 .done)))))
 (.seq (.reg (tm 57 (.t 0) (tm 58 (.t 3) (tq 59 (.slice 1 (.t 57) none (some (.t 58))) (tm 2 (.t 59) .done)))))
 .ret)))))
 .skip)))
 (.reg (tm 14 (.t 3) (tq 15 (.bin .add (.t 14) (.c (.int .i64 1))) (tm 3 (.t 15) .done)))))))))
 (.cut (.seq (.reg (tm 60 (.t 0) (tm 2 (.t 60) .done)))
 .ret)))))
theorem d5e:a1p Try.prog Try.f94 = some (d3c.erase,[.mov (.t 2)],61):=by kernel_rfl
def a0w (s_1:(List Int)) (k_235:Nat):Nat → Int → Int → (List Int) → Option (Int × (List Int))
  | 0,_,_,_ => none
  | k + 1,k_439,k2_440,s_441 =>
    if (decide (k2_440 < (((s_1.length - k_235):Nat):Int))) then
    if (0:Int) ≤ k2_440 ∧ k2_440 < (((s_1.length - k_235):Nat):Int) then
    (s_441[(k_235 + k2_440.toNat)]?).bind fun x_461 =>
    if (0:Int) ≤ w64 (k2_440 - 1) ∧ w64 (k2_440 - 1) < (((s_1.length - k_235):Nat):Int) then
    (s_441[(k_235 + (w64 (k2_440 - 1)).toNat)]?).bind fun x_464 =>
    if (x_461 != x_464) then
    if (0:Int) ≤ k2_440 ∧ k2_440 < (((s_1.length - k_235):Nat):Int) then
    if (0:Int) ≤ k_439 ∧ k_439 < (s_441.length:Int) then
    (s_441[(0 + k_439.toNat)]?).bind fun x_469 =>
    a0w s_1 k_235 k (w64 (k_439 + 1)) (w64 (k2_440 + 1)) (s_441.set (0 + k_439.toNat) x_461)
    else none
    else none
    else
    a0w s_1 k_235 k k_439 (w64 (k2_440 + 1)) s_441
    else none
    else none
    else
    some (k_439,s_441)

def a0x (s_1:(List Int)):List Int → Nat → Option (Fl (List Int) Unit)
  | [],k_235 =>
    some (.go ())
  | x_359 :: xs,k_235 =>
    if k_235 < s_1.length then
    if (0:Int) ≤ w64 ((k_235:Int) - 1) ∧ w64 ((k_235:Int) - 1) < (s_1.length:Int) then
    (s_1[(0 + (w64 ((k_235:Int) - 1)).toNat)]?).bind fun x_364 =>
    if (x_359 == x_364) then
    if (0:Int) ≤ (k_235:Int) ∧ (k_235:Int) ≤ (s_1.length:Int) then
    (a0w s_1 k_235 FUEL (k_235:Int) 1 s_1).bind fun p457 =>
    (match p457 with
    | (k_455,s_456) =>
    if (0:Int) ≤ k_455 ∧ k_455 ≤ (s_456.length:Int) then
    if (0:Int) ≤ k_455 ∧ k_455 ≤ (s_456.length:Int) then
    some (.ret ((s_456.take k_455.toNat ++ List.replicate (s_456.length - k_455.toNat) 0 ++ s_456.drop (k_455.toNat + (s_456.length - k_455.toNat))).take k_455.toNat))
    else none
    else none)
    else none
    else
    a0x s_1 xs (k_235 + 1)
    else none
    else none

def a3u (s_1:(List Int)):Option (List Int) :=
    if (decide ((s_1.length:Int) < 2)) then
    some s_1
    else
    (a0x s_1 (s_1.drop 1) 1).bind fun q => (match q with
    | .ret r => some r
    | .go _ =>
    some s_1)
theorem b1a (s_1:(List Int)) (r:(List Int)) (hf:a3u s_1 = some r):a1l Try.prog true 94 [(.own 0 0 s_1.length)] [.row 1 (s_1.map encI)] (.own 1 0 r.length) [.dead,.row 1 (r.map encI)]:=by
 refine a1l.of_awp mixed Try.func94 d5e nle ?_;rw [a0t];unfold a3u at hf;unfold d3c;refine (show awp Try.prog true 1 _ (ofL [(0,(.own 0 0 s_1.length))]) [.row 1 (s_1.map encI)] _ from ?_);refine sr<|l7 .nil rfl<|dk<|o6<|sr<|l7 (.own 0 0 s_1.length) rfl<|a0o (a5f rfl rfl) fun hl2 => y8 (.bool (decide ((s_1.length:Int) < 2))) rfl rfl rfl<|dk<|?_
 rcases oi hf with ⟨c3,hf⟩ | ⟨c3,hf⟩
 ·refine y5 rfl c3<|sr<|l7 (.own 0 0 s_1.length) rfl<|l7 (.own 0 0 s_1.length) rfl<|dk<|a0k<|?_;obtain rfl:=os hf;exact a8n [.mv 0] [0,1] rfl ⟨trivial,trivial⟩ rfl (.refl _) (.refl _)
 ·refine y7 rfl (bf c3)<|a0e<|a0g<|o6<|sr<|l7 (.int .i64 1) rfl<|dk<|?_
  obtain ⟨p352,hb1,hf⟩:=ob hf
  refine a4a (X:={q:Unit // p352 = .go q}) (fun q => ([(0,(.own 0 0 s_1.length))],[.row 1 (s_1.map encI)])) ?_ ?_
  ·refine a0z (X:={q:Nat // a0x s_1 (s_1.drop q) q = some p352}) (fun q => ([(0,(.own 0 0 s_1.length)),(3,(.int .i64 (q.1:Int)))],[.row 1 (s_1.map encI)])) (fun q => s_1.length - q.1) ⟨1,hb1⟩ ⟨[],[0],_,_,rfl,rfl,⟨.refl _,⟨.refl _,trivial⟩⟩,(.refl _)⟩ ?_
   rintro ⟨k_235,hc1⟩
   have hc1:a0x s_1 (s_1.drop k_235) k_235 = some p352:=hc1
   refine (show awp Try.prog true 1 _ (ofL [(0,(.own 0 0 s_1.length)),(3,(.int .i64 (k_235:Int)))]) [.row 1 (s_1.map encI)] _ from ?_)
   rcases a5c s_1 k_235 with ⟨hie355,hd358⟩ | ⟨hlt353,x_359,hx354,hd358⟩
   ·rw [hd358,a0x.eq_1] at hc1
    have hq357:=dlf hie355
    refine o6<|sr<|l7 (.int .i64 (k_235:Int)) rfl<|l7 (.own 0 0 s_1.length) rfl<|a0o (a5f rfl rfl) fun hl360 => y8 (.bool (decide ((k_235:Int) < (s_1.length:Int)))) rfl rfl rfl<|dk<|y7 rfl hq357<|a1y<|a1x<|a1i<|a1w<|?_;obtain rfl:=os hc1;exact a5z ⟨_,rfl⟩ ⟨[],[0],_,_,rfl,rfl,⟨.refl _,trivial⟩,(.refl _)⟩
   ·rw [hd358,a0x.eq_2] at hc1
    have hq357:=dlt hlt353
    refine o6<|sr<|l7 (.int .i64 (k_235:Int)) rfl<|l7 (.own 0 0 s_1.length) rfl<|a0o (a5f rfl rfl) fun hl361 => y8 (.bool (decide ((k_235:Int) < (s_1.length:Int)))) rfl rfl rfl<|dk<|y5 rfl hq357<|a0e<|a0g<|o6<|a3j<|sr<|?_
    obtain ⟨g362,hc1⟩:=og hc1
    obtain ⟨g363,hc1⟩:=og hc1
    obtain ⟨x_364,ex365,hc1⟩:=ob hc1
    refine l7 (.own 0 0 s_1.length) rfl<|l7 (.int .i64 (k_235:Int)) rfl<|a0b (a5q rfl rfl g362 rfl rfl)<|a0b (a6o (enc:=encI) (v:=(.int .i64 x_359)) rfl rfl hx354 ⟨rfl,rfl⟩ rfl)<|l7 (.own 0 0 s_1.length) rfl<|l7 (.int .i64 (k_235:Int)) rfl<|y8 (.int .i64 (w64 ((k_235:Int) - 1))) rfl rfl rfl<|a0b (a2d rfl rfl g363.1 g363.2 rfl rfl)<|a0b (a6o (enc:=encI) (v:=(.int .i64 x_364)) rfl rfl ex365 ⟨rfl,rfl⟩ rfl)<|y8 (.bool (x_359 == x_364)) rfl rfl rfl<|dk<|?_
    rcases oi hc1 with ⟨c366,hc1⟩ | ⟨c366,hc1⟩
    ·refine y5 rfl c366<|sr<|?_
     obtain ⟨g367,hc1⟩:=og hc1
     refine l7 (.own 0 0 s_1.length) rfl<|l7 (.int .i64 (k_235:Int)) rfl<|a0b (c5a rfl rfl rfl g367.1 g367.2)<|l7 (.own 0 k_235 (s_1.length - k_235)) rfl<|dk<|o6<|sr<|l7 (.int .i64 1) rfl<|dk<|?_
     obtain ⟨p457,hb2,hc1⟩:=ob hc1
     refine a2e ([(0,(.own 0 0 p457.2.length)),(3,(.int .i64 p457.1))],[.row 1 (p457.2.map encI)]) ?_ ?_
     ·refine a0z (X:={q:(Nat × Int × Int × (List Int)) // a0w s_1 k_235 q.1 q.2.1 q.2.2.1 q.2.2.2 = some p457}) (fun q => ([(0,(.own 0 0 q.1.2.2.2.length)),(3,(.int .i64 q.1.2.1)),(4,(.own 0 k_235 (s_1.length - k_235))),(5,(.int .i64 q.1.2.2.1))],[.row 1 (q.1.2.2.2.map encI)])) (fun q => q.1.1) ⟨(FUEL,(k_235:Int),1,s_1),hb2⟩ ⟨[],[0],_,_,rfl,rfl,⟨.refl _,⟨.refl _,⟨.refl _,⟨.refl _,trivial⟩⟩⟩⟩,(.refl _)⟩ ?_
      rintro ⟨⟨k,k_439,k2_440,s_441⟩,hc2⟩
      have hc2:a0w s_1 k_235 k k_439 k2_440 s_441 = some p457:=hc2
      refine (show awp Try.prog true 1 _ (ofL [(0,(.own 0 0 s_441.length)),(3,(.int .i64 k_439)),(4,(.own 0 k_235 (s_1.length - k_235))),(5,(.int .i64 k2_440))]) [.row 1 (s_441.map encI)] _ from ?_)
      rcases k with _ | k
      ·rw [a0w.eq_1] at hc2
       cases hc2
      ·rw [a0w.eq_2] at hc2;refine o6<|sr<|l7 (.int .i64 k2_440) rfl<|l7 (.own 0 k_235 (s_1.length - k_235)) rfl<|a0o (a5f rfl rfl) fun hl458 => y8 (.bool (decide (k2_440 < (((s_1.length - k_235):Nat):Int)))) rfl rfl rfl<|dk<|?_
       rcases oi hc2 with ⟨c459,hc2⟩ | ⟨c459,hc2⟩
       ·refine y5 rfl c459<|a0e<|a0g<|o6<|a3j<|sr<|?_
        obtain ⟨g460,hc2⟩:=og hc2
        obtain ⟨x_461,ex462,hc2⟩:=ob hc2
        obtain ⟨g463,hc2⟩:=og hc2
        obtain ⟨x_464,ex465,hc2⟩:=ob hc2
        refine l7 (.own 0 k_235 (s_1.length - k_235)) rfl<|l7 (.int .i64 k2_440) rfl<|a0b (a2d rfl rfl g460.1 g460.2 rfl rfl)<|a0b (a6o (enc:=encI) (v:=(.int .i64 x_461)) rfl rfl ex462 ⟨rfl,rfl⟩ rfl)<|l7 (.own 0 k_235 (s_1.length - k_235)) rfl<|l7 (.int .i64 k2_440) rfl<|y8 (.int .i64 (w64 (k2_440 - 1))) rfl rfl rfl<|a0b (a2d rfl rfl g463.1 g463.2 rfl rfl)<|a0b (a6o (enc:=encI) (v:=(.int .i64 x_464)) rfl rfl ex465 ⟨rfl,rfl⟩ rfl)<|y8 (.bool (x_461 != x_464)) rfl rfl rfl<|dk<|?_
        rcases oi hc2 with ⟨c466,hc2⟩ | ⟨c466,hc2⟩
        ·refine y5 rfl c466<|sr<|?_
         obtain ⟨g467,hc2⟩:=og hc2
         obtain ⟨g468,hc2⟩:=og hc2
         obtain ⟨x_469,ex470,hc2⟩:=ob hc2
         refine l7 (.own 0 0 s_441.length) rfl<|l7 (.int .i64 k_439) rfl<|l7 (.own 0 k_235 (s_1.length - k_235)) rfl<|l7 (.int .i64 k2_440) rfl<|a0b (a2d rfl rfl g467.1 g467.2 rfl rfl)<|a0b (a6o (enc:=encI) (v:=(.int .i64 x_461)) rfl rfl ex462 ⟨rfl,rfl⟩ rfl)<|a0b (a2d rfl rfl g468.1 g468.2 rfl rfl)<|?_;refine a4o (a5a (v':=(.int .i64 x_461)) (e':=x_461) rfl rfl ex470 rfl rfl rfl (by decide) (fun _ => by decide) ⟨rfl,rfl,rfl⟩ (.refl _) rfl) ?_;refine dk<|a0y<|l7 (.int .i64 k_439) rfl<|y8 (.int .i64 (w64 (k_439 + 1))) rfl rfl rfl<|l7 (.int .i64 (w64 (k_439 + 1))) rfl<|a0m<|a2s<|a0g<|a0y<|l7 (.int .i64 k2_440) rfl<|?_
         refine y8 (.int .i64 (w64 (k2_440 + 1))) rfl rfl rfl<|l7 (.int .i64 (w64 (k2_440 + 1))) rfl<|a0m<|?_;exact a1e ⟨(k,w64 (k_439 + 1),w64 (k2_440 + 1),s_441.set (0 + k_439.toNat) x_461),hc2⟩ (Nat.lt_succ_self _) ⟨[],[0],_,_,rfl,rfl,⟨.of_eq (congrArg (AV.own _ 0) (by simp)),⟨.refl _,⟨.refl _,⟨.refl _,trivial⟩⟩⟩⟩,(.refl _)⟩
        ·refine y7 rfl (bf c466)<|a0e<|a2s<|a0g<|a0y<|l7 (.int .i64 k2_440) rfl<|y8 (.int .i64 (w64 (k2_440 + 1))) rfl rfl rfl<|l7 (.int .i64 (w64 (k2_440 + 1))) rfl<|a0m<|?_;exact a1e ⟨(k,k_439,w64 (k2_440 + 1),s_441),hc2⟩ (Nat.lt_succ_self _) ⟨[],[0],_,_,rfl,rfl,⟨.refl _,⟨.refl _,⟨.refl _,⟨.refl _,trivial⟩⟩⟩⟩,(.refl _)⟩
       ·refine y7 rfl (bf c459)<|a1y<|a1x<|a1i<|a1w<|?_;obtain rfl:=os hc2;exact ⟨[],[0],_,_,rfl,rfl,⟨.refl _,⟨.refl _,trivial⟩⟩,(.refl _)⟩
     ·obtain ⟨k_455,s_456⟩:=p457
      refine sr<|?_
      obtain ⟨g471,hc1⟩:=og hc1
      refine l7 (.own 0 0 s_456.length) rfl<|l7 (.int .i64 k_455) rfl<|a0b (c5a rfl rfl rfl g471.1 g471.2)<|a4o (d8b (enc:=encI) (y:=0) rfl rfl (.refl _) rfl)<|dk<|sr<|?_
      obtain ⟨g472,hc1⟩:=og hc1
      refine l7 (.own 0 0 s_456.length) rfl<|l7 (.int .i64 k_455) rfl<|a0b (c4z rfl rfl rfl g472.1 g472.2)<|l7 (.own 0 0 k_455.toNat) rfl<|dk<|a0k<|?_;obtain rfl:=os hc1;obtain rfl:=os hf;exact a8n [.trim 2] [0,1] rfl ⟨trivial,trivial⟩ rfl ((.cons (.refl _) (.cons ((LeO.tk (enc:=encI) (s_456.take k_455.toNat ++ List.replicate (s_456.length - k_455.toNat) 0 ++ s_456.drop (k_455.toNat + (s_456.length - k_455.toNat))) _)) .nil))) (.of_eq (congrArg (AV.own _ 0) (by simp)))
    ·refine y7 rfl (bf c366)<|a0e<|a2s<|a0g<|a0y<|l7 (.int .i64 (k_235:Int)) rfl<|y8 (.int .i64 (w64 ((k_235:Int) + 1))) rfl rfl rfl<|l7 (.int .i64 (w64 ((k_235:Int) + 1))) rfl<|a0m<|?_;exact a1e ⟨(k_235 + 1),hc1⟩ (mul hlt353) ⟨[],[0],_,_,rfl,rfl,⟨.refl _,⟨.of_eq (congrArg (AV.int _) (a1j hlt353 hl361)),trivial⟩⟩,(.refl _)⟩
  ·rintro ⟨_,rfl⟩
   refine sr<|l7 (.own 0 0 s_1.length) rfl<|l7 (.own 0 0 s_1.length) rfl<|dk<|a0k<|?_;obtain rfl:=os hf;exact a8n [.mv 0] [0,1] rfl ⟨trivial,trivial⟩ rfl (.refl _) (.refl _)

/- slices.BinarySearchFunc[[]impl.Row,impl.Row,int] -/
def d8i:a0r :=
 (.seq (.reg (tm 6 (.c (.int .i64 0)) (tm 7 (.c (.bool false)) .done)))
 (.seq (.reg (tm 12 (.t 0) (tq 13 (.len (.t 12)) (tm 8 (.t 13) .done))))
 (.seq (.reg (tm 14 (.t 8) (tm 9 (.c (.int .i64 0)) (tm 10 (.t 14) .done))))
 (.seq (.block 0 (.loop (.seq (.seq (.reg (tm 15 (.t 9) (tm 16 (.t 10) (tq 17 (.bin .lss (.t 15) (.t 16)) .done))))
 (.cond (.t 17) .skip
 (.exit 0)))
 (.block 1 (.seq (.reg (tm 18 (.t 9) (tm 19 (.t 10) (tq 20 (.bin .add (.t 18) (.t 19)) (tq 21 (.convI .u64 (.t 20)) (tq 22 (.bin .shr (.t 21) (.c (.int .u64 1))) (tq 23 (.convI .i64 (.t 22)) (tm 11 (.t 23) .done))))))))
 (.seq (.reg (tm 24 (.t 2) (tm 25 (.t 0) (tm 26 (.t 11) (tq 27 (.iaddr 2 (.t 25) (.t 26)) (tq 28 (.load 2 true (.t 27)) (tm 29 (.t 1) (tq 30 (.calv (.t 24) [(.t 28),(.t 29)]) (tq 31 (.bin .lss (.t 30) (.c (.int .i64 0))) .done)))))))))
 (.cond (.t 31) (.reg (tm 32 (.t 11) (tq 33 (.bin .add (.t 32) (.c (.int .i64 1))) (tm 9 (.t 33) .done))))
 (.reg (tm 34 (.t 11) (tm 10 (.t 34) .done))))))))))
 (.cut (.seq (.reg (tm 35 (.t 9) (tm 36 (.t 9) (tm 37 (.t 8) (tq 38 (.bin .lss (.t 36) (.t 37)) (tm 39 (.t 38) (tg 40 39 true (.mov (.t 2)) (tg 41 39 true (.mov (.t 0)) (tg 42 39 true (.mov (.t 9)) (tg 43 39 true (.iaddr 2 (.t 41) (.t 42)) (tg 44 39 true (.load 2 true (.t 43)) (tg 45 39 true (.mov (.t 1)) (tg 46 39 true (.calv (.t 40) [(.t 44),(.t 45)]) (tg 47 39 true (.bin .eql (.t 46) (.c (.int .i64 0))) (tq 48 (.pick (.t 39) (.t 47) (.c (.bool false))) (tm 6 (.t 35) (tm 7 (.t 48) .done)))))))))))))))))
 .ret))))))
theorem d8j:a1p Try.prog Try.f112 = some (d8i.erase,[.mov (.t 6),.mov (.t 7)],49):=by kernel_rfl
def a0f (x_1:(List x9)) (cmp_3:(x9 → Int → Option Int)) (target_2:Int):Nat → Int → Int → Option Int
  | 0,_,_ => none
  | k + 1,i_41,j_42 =>
    if (decide (i_41 < j_42)) then
    (idx x_1 (w64 (Int.fdiv (IntKind.u64.wrap (w64 (i_41 + j_42))) (2 ^ (min (Int.toNat 1) (IntKind.bits .u64)))))).bind fun x_52 =>
    (cmp_3 x_52 target_2).bind fun r_54 =>
    if (decide (r_54 < 0)) then
    a0f x_1 cmp_3 target_2 k (w64 ((w64 (Int.fdiv (IntKind.u64.wrap (w64 (i_41 + j_42))) (2 ^ (min (Int.toNat 1) (IntKind.bits .u64))))) + 1)) j_42
    else
    a0f x_1 cmp_3 target_2 k i_41 (w64 (Int.fdiv (IntKind.u64.wrap (w64 (i_41 + j_42))) (2 ^ (min (Int.toNat 1) (IntKind.bits .u64)))))
    else
    some i_41

def a1o (x_1:(List x9)) (target_2:Int) (cmp_3:(x9 → Int → Option Int)):Option (Int × Bool) :=
    (a0f x_1 cmp_3 target_2 FUEL 0 (x_1.length:Int)).bind fun i_49 =>
    if (decide (i_49 < (x_1.length:Int))) then
    (idx x_1 i_49).bind fun x_58 =>
    (cmp_3 x_58 target_2).bind fun r_60 =>
    some (i_49,(r_60 == 0))
    else
    some (i_49,false)
theorem a6j (x_1:(List x9)) (target_2:Int) (cmp_3:(x9 → Int → Option Int)) (r:(Int × Bool)) (hf:a1o x_1 target_2 cmp_3 = some r) (kf_cmp_3:Nat) (cf_cmp_3:List AV) (okf_cmp_3:c8k Try.prog kf_cmp_3 = true) (hcf_cmp_3:∀ h p,a3k h p cf_cmp_3 = some cf_cmp_3) (hrf_cmp_3:∀ f,a6u f cf_cmp_3 = cf_cmp_3) (hpf_cmp_3:∀ a0 a1 r,cmp_3 a0 a1 = some r → a0d Try.prog kf_cmp_3 .flat ([(l9 a0),(.int .i64 a1)] ++ cf_cmp_3) (.int .i64 r)):a0d Try.prog 112 .flat [(.lst 2 (x_1.map l9)),(.int .i64 target_2),(.fn kf_cmp_3 cf_cmp_3)] (.tup [(.int .i64 r.1),(.bool r.2)]):=by
 refine a0d.of_awp mixed Try.func112 d8j nle ?_;rw [a0t];unfold a1o at hf;unfold d8i;refine (show awp Try.prog false 0 _ (ofL [(0,(.lst 2 (x_1.map l9))),(1,(.int .i64 target_2)),(2,(.fn kf_cmp_3 cf_cmp_3))]) [] _ from ?_);refine sr<|l7 (.int .i64 0) rfl<|l7 (.bool false) rfl<|dk<|sr<|l7 (.lst 2 (x_1.map l9)) rfl<|a0o (a1c (enc:=l9) rfl) fun hl4 => l7 (.int .i64 (x_1.length:Int)) rfl<|dk<|sr<|l7 (.int .i64 (x_1.length:Int)) rfl<|l7 (.int .i64 0) rfl<|l7 (.int .i64 (x_1.length:Int)) rfl<|dk<|o6<|?_
 obtain ⟨i_49,hb1,hf⟩:=ob hf
 refine a2e ([(0,(.lst 2 (x_1.map l9))),(1,(.int .i64 target_2)),(2,(.fn kf_cmp_3 cf_cmp_3)),(8,(.int .i64 (x_1.length:Int))),(9,(.int .i64 i_49))],[]) ?_ ?_
 ·refine a0z (X:={q:(Nat × Int × Int) // a0f x_1 cmp_3 target_2 q.1 q.2.1 q.2.2 = some i_49}) (fun q => ([(0,(.lst 2 (x_1.map l9))),(1,(.int .i64 target_2)),(2,(.fn kf_cmp_3 cf_cmp_3)),(8,(.int .i64 (x_1.length:Int))),(9,(.int .i64 q.1.2.1)),(10,(.int .i64 q.1.2.2))],[])) (fun q => q.1.1) ⟨(FUEL,0,(x_1.length:Int)),hb1⟩ ⟨[],[],_,_,rfl,rfl,⟨.refl _,⟨.refl _,⟨.of_eq (congrArg (AV.fn _) (hrf_cmp_3 _)),⟨.refl _,⟨.refl _,⟨.refl _,trivial⟩⟩⟩⟩⟩⟩,(.refl _)⟩ ?_
  rintro ⟨⟨k,i_41,j_42⟩,hc1⟩
  have hc1:a0f x_1 cmp_3 target_2 k i_41 j_42 = some i_49:=hc1
  refine (show awp Try.prog false 0 _ (ofL [(0,(.lst 2 (x_1.map l9))),(1,(.int .i64 target_2)),(2,(.fn kf_cmp_3 cf_cmp_3)),(8,(.int .i64 (x_1.length:Int))),(9,(.int .i64 i_41)),(10,(.int .i64 j_42))]) [] _ from ?_)
  rcases k with _ | k
  ·rw [a0f.eq_1] at hc1
   cases hc1
  ·rw [a0f.eq_2] at hc1;refine o6<|sr<|l7 (.int .i64 i_41) rfl<|l7 (.int .i64 j_42) rfl<|y8 (.bool (decide (i_41 < j_42))) rfl rfl rfl<|dk<|?_
   rcases oi hc1 with ⟨c51,hc1⟩ | ⟨c51,hc1⟩
   ·refine y5 rfl c51<|a0e<|a0g<|a3j<|sr<|l7 (.int .i64 i_41) rfl<|l7 (.int .i64 j_42) rfl<|y8 (.int .i64 (w64 (i_41 + j_42))) rfl rfl rfl<|y8 (.int .u64 (IntKind.u64.wrap (w64 (i_41 + j_42)))) rfl trivial rfl<|?_;refine a0b (o_q (.int .u64 (Int.fdiv (IntKind.u64.wrap (w64 (i_41 + j_42))) (2 ^ (min (Int.toNat 1) (IntKind.bits .u64))))) rfl (show (0:Int) ≤ 1 by decide) rfl) ?_;refine y8 (.int .i64 (w64 (Int.fdiv (IntKind.u64.wrap (w64 (i_41 + j_42))) (2 ^ (min (Int.toNat 1) (IntKind.bits .u64)))))) rfl trivial rfl<|l7 (.int .i64 (w64 (Int.fdiv (IntKind.u64.wrap (w64 (i_41 + j_42))) (2 ^ (min (Int.toNat 1) (IntKind.bits .u64)))))) rfl<|dk<|o6<|?_
    refine a0y ?_
    obtain ⟨x_52,ex53,hc1⟩:=ob hc1
    obtain ⟨r_54,er55,hc1⟩:=ob hc1
    refine l7 (.fn kf_cmp_3 cf_cmp_3) rfl<|l7 (.lst 2 (x_1.map l9)) rfl<|l7 (.int .i64 (w64 (Int.fdiv (IntKind.u64.wrap (w64 (i_41 + j_42))) (2 ^ (min (Int.toNat 1) (IntKind.bits .u64)))))) rfl<|a0b (a4w (enc:=l9) rfl rfl (b0q ex53) (b0r ex53))<|y8 (l9 x_52) rfl nle rfl<|l7 (.int .i64 target_2) rfl<|a0b (b9q (v:=(.int .i64 r_54)) rfl okf_cmp_3 hcf_cmp_3 (hpf_cmp_3 _ _ _ er55) rfl (.refl _) rfl)<|y8 (.bool (decide (r_54 < 0))) rfl rfl rfl<|dk<|?_
    rcases oi hc1 with ⟨c56,hc1⟩ | ⟨c56,hc1⟩
    ·refine y5 rfl c56<|a0y<|l7 (.int .i64 (w64 (Int.fdiv (IntKind.u64.wrap (w64 (i_41 + j_42))) (2 ^ (min (Int.toNat 1) (IntKind.bits .u64)))))) rfl<|y8 (.int .i64 (w64 ((w64 (Int.fdiv (IntKind.u64.wrap (w64 (i_41 + j_42))) (2 ^ (min (Int.toNat 1) (IntKind.bits .u64))))) + 1))) rfl rfl rfl<|l7 (.int .i64 (w64 ((w64 (Int.fdiv (IntKind.u64.wrap (w64 (i_41 + j_42))) (2 ^ (min (Int.toNat 1) (IntKind.bits .u64))))) + 1))) rfl<|a0m<|a2s<|?_;exact a1e ⟨(k,w64 ((w64 (Int.fdiv (IntKind.u64.wrap (w64 (i_41 + j_42))) (2 ^ (min (Int.toNat 1) (IntKind.bits .u64))))) + 1),j_42),hc1⟩ (Nat.lt_succ_self _) ⟨[],[],_,_,rfl,rfl,⟨.refl _,⟨.refl _,⟨.of_eq (congrArg (AV.fn _) (hrf_cmp_3 _)),⟨.refl _,⟨.refl _,⟨.refl _,trivial⟩⟩⟩⟩⟩⟩,(.refl _)⟩
    ·refine y7 rfl (bf c56)<|a0y<|l7 (.int .i64 (w64 (Int.fdiv (IntKind.u64.wrap (w64 (i_41 + j_42))) (2 ^ (min (Int.toNat 1) (IntKind.bits .u64)))))) rfl<|l7 (.int .i64 (w64 (Int.fdiv (IntKind.u64.wrap (w64 (i_41 + j_42))) (2 ^ (min (Int.toNat 1) (IntKind.bits .u64)))))) rfl<|a0m<|a2s<|?_;exact a1e ⟨(k,i_41,w64 (Int.fdiv (IntKind.u64.wrap (w64 (i_41 + j_42))) (2 ^ (min (Int.toNat 1) (IntKind.bits .u64))))),hc1⟩ (Nat.lt_succ_self _) ⟨[],[],_,_,rfl,rfl,⟨.refl _,⟨.refl _,⟨.of_eq (congrArg (AV.fn _) (hrf_cmp_3 _)),⟨.refl _,⟨.refl _,⟨.refl _,trivial⟩⟩⟩⟩⟩⟩,(.refl _)⟩
   ·refine y7 rfl (bf c51)<|a1y<|a1x<|a1i<|a1w<|?_;obtain rfl:=os hc1;exact ⟨[],[],_,_,rfl,rfl,⟨.refl _,⟨.refl _,⟨.of_eq (congrArg (AV.fn _) (hrf_cmp_3 _)),⟨.refl _,⟨.refl _,trivial⟩⟩⟩⟩⟩,(.refl _)⟩
 ·refine sr<|l7 (.int .i64 i_49) rfl<|l7 (.int .i64 i_49) rfl<|l7 (.int .i64 (x_1.length:Int)) rfl<|y8 (.bool (decide (i_49 < (x_1.length:Int)))) rfl rfl rfl<|l7 (.bool (decide (i_49 < (x_1.length:Int)))) rfl<|?_
  rcases oi hf with ⟨c57,hf⟩ | ⟨c57,hf⟩
  ·refine a8u (s:=39) (b:=true) rfl c57<|s_on rfl<|l7 (.fn kf_cmp_3 cf_cmp_3) rfl<|s_on rfl<|l7 (.lst 2 (x_1.map l9)) rfl<|s_on rfl<|l7 (.int .i64 i_49) rfl<|s_on rfl<|?_
   obtain ⟨x_58,ex59,hf⟩:=ob hf
   refine a0b (a4w (enc:=l9) rfl rfl (b0q ex59) (b0r ex59))<|s_on rfl<|y8 (l9 x_58) rfl nle rfl<|s_on rfl<|l7 (.int .i64 target_2) rfl<|s_on rfl<|?_
   obtain ⟨r_60,er61,hf⟩:=ob hf
   refine a0b (b9q (v:=(.int .i64 r_60)) rfl okf_cmp_3 hcf_cmp_3 (hpf_cmp_3 _ _ _ er61) rfl (.refl _) rfl)<|s_on rfl<|y8 (.bool (r_60 == 0)) rfl rfl rfl<|y8 (.bool (r_60 == 0)) rfl trivial rfl<|l7 (.int .i64 i_49) rfl<|l7 (.bool (r_60 == 0)) rfl<|dk<|a0k<|?_;obtain rfl:=os hf;exact a0l ⟨trivial,⟨trivial,trivial⟩⟩ rfl (.refl _)
  ·refine a8u (s:=39) (b:=false) rfl (bf c57)<|a1m rfl rfl<|a1m rfl rfl<|a1m rfl rfl<|a1m rfl rfl<|a1m rfl rfl<|a1m rfl rfl<|a1m rfl rfl<|a1m rfl rfl<|y8 (.bool false) rfl trivial rfl<|l7 (.int .i64 i_49) rfl<|l7 (.bool false) rfl<|dk<|a0k<|?_;obtain rfl:=os hf;exact a0l ⟨trivial,⟨trivial,trivial⟩⟩ rfl (.refl _)

/- cmp.Compare[int] -/
def d8k:a0r :=
 (.seq (.reg (tm 4 (.c (.int .i64 0)) .done))
 (.seq (.reg (tm 7 (.t 0) (tq 8 (.call 130 [(.t 7)]) (tm 5 (.t 8) .done))))
 (.seq (.reg (tm 9 (.t 1) (tq 10 (.call 130 [(.t 9)]) (tm 6 (.t 10) .done))))
 (.seq (.seq (.reg (tm 11 (.t 5) .done))
 (.cond (.t 11) (.seq (.seq (.reg (tm 12 (.t 6) .done))
 (.cond (.t 12) (.seq (.reg (tm 4 (.c (.int .i64 0)) .done))
 .ret)
 .skip))
 (.seq (.reg (tq 4 (.mov (.c (.int .i64 (-1)))) .done))
 .ret))
 .skip))
 (.seq (.seq (.reg (tm 13 (.t 6) .done))
 (.cond (.t 13) (.seq (.reg (tm 4 (.c (.int .i64 1)) .done))
 .ret)
 .skip))
 (.seq (.seq (.reg (tm 14 (.t 0) (tm 15 (.t 1) (tq 16 (.bin .lss (.t 14) (.t 15)) .done))))
 (.cond (.t 16) (.seq (.reg (tq 4 (.mov (.c (.int .i64 (-1)))) .done))
 .ret)
 .skip))
 (.seq (.seq (.reg (tm 17 (.t 0) (tm 18 (.t 1) (tq 19 (.bin .gtr (.t 17) (.t 18)) .done))))
 (.cond (.t 19) (.seq (.reg (tm 4 (.c (.int .i64 1)) .done))
 .ret)
 .skip))
 (.seq (.reg (tm 4 (.c (.int .i64 0)) .done))
 .ret))))))))
theorem d8l:a1p Try.prog Try.f114 = some (d8k.erase,[.mov (.t 4)],20):=by kernel_rfl
def cmp_Compare_int (x_1:Int) (y_2:Int):Option Int :=
    (cmp_isNaN_int x_1).bind fun r_3 =>
    (cmp_isNaN_int y_2).bind fun r_5 =>
    if r_3 then
    if r_5 then
    some 0
    else
    some (-1)
    else
    if r_5 then
    some 1
    else
    if (decide (x_1 < y_2)) then
    some (-1)
    else
    if (decide (x_1 > y_2)) then
    some 1
    else
    some 0
theorem b6w (x_1:Int) (y_2:Int) (r:Int) (hf:cmp_Compare_int x_1 y_2 = some r):a0d Try.prog 114 .flat [(.int .i64 x_1),(.int .i64 y_2)] (.int .i64 r):=by
 refine a0d.of_awp mixed Try.func114 d8l nle ?_;rw [a0t];unfold cmp_Compare_int at hf;unfold d8k;refine (show awp Try.prog false 0 _ (ofL [(0,(.int .i64 x_1)),(1,(.int .i64 y_2))]) [] _ from ?_);refine sr<|l7 (.int .i64 0) rfl<|dk<|sr<|?_
 obtain ⟨r_3,er4,hf⟩:=ob hf
 refine l7 (.int .i64 x_1) rfl<|a0b (a1t (b2z _ _ er4) rfl (.refl _) rfl)<|l7 (.bool r_3) rfl<|dk<|sr<|?_
 obtain ⟨r_5,er6,hf⟩:=ob hf
 refine l7 (.int .i64 y_2) rfl<|a0b (a1t (b2z _ _ er6) rfl (.refl _) rfl)<|l7 (.bool r_5) rfl<|dk<|o6<|sr<|l7 (.bool r_3) rfl<|dk<|?_
 rcases oi hf with ⟨c7,hf⟩ | ⟨c7,hf⟩
 ·refine y5 rfl c7<|o6<|sr<|l7 (.bool r_5) rfl<|dk<|?_
  rcases oi hf with ⟨c8,hf⟩ | ⟨c8,hf⟩
  ·refine y5 rfl c8<|sr<|l7 (.int .i64 0) rfl<|dk<|a0k<|?_;obtain rfl:=os hf;exact a0l ⟨trivial,trivial⟩ rfl (.refl _)
  ·refine y7 rfl (bf c8)<|a0e<|a0g<|sr<|l7 (.int .i64 (-1)) rfl<|dk<|a0k<|?_;obtain rfl:=os hf;exact a0l ⟨trivial,trivial⟩ rfl (.refl _)
 ·refine y7 rfl (bf c7)<|a0e<|a0g<|o6<|sr<|l7 (.bool r_5) rfl<|dk<|?_
  rcases oi hf with ⟨c9,hf⟩ | ⟨c9,hf⟩
  ·refine y5 rfl c9<|sr<|l7 (.int .i64 1) rfl<|dk<|a0k<|?_;obtain rfl:=os hf;exact a0l ⟨trivial,trivial⟩ rfl (.refl _)
  ·refine y7 rfl (bf c9)<|a0e<|a0g<|o6<|sr<|l7 (.int .i64 x_1) rfl<|l7 (.int .i64 y_2) rfl<|y8 (.bool (decide (x_1 < y_2))) rfl rfl rfl<|dk<|?_
   rcases oi hf with ⟨c10,hf⟩ | ⟨c10,hf⟩
   ·refine y5 rfl c10<|sr<|l7 (.int .i64 (-1)) rfl<|dk<|a0k<|?_;obtain rfl:=os hf;exact a0l ⟨trivial,trivial⟩ rfl (.refl _)
   ·refine y7 rfl (bf c10)<|a0e<|a0g<|o6<|sr<|l7 (.int .i64 x_1) rfl<|l7 (.int .i64 y_2) rfl<|y8 (.bool (decide (x_1 > y_2))) rfl rfl rfl<|dk<|?_
    rcases oi hf with ⟨c11,hf⟩ | ⟨c11,hf⟩
    ·refine y5 rfl c11<|sr<|l7 (.int .i64 1) rfl<|dk<|a0k<|?_;obtain rfl:=os hf;exact a0l ⟨trivial,trivial⟩ rfl (.refl _)
    ·refine y7 rfl (bf c11)<|a0e<|a0g<|sr<|l7 (.int .i64 0) rfl<|dk<|a0k<|?_;obtain rfl:=os hf;exact a0l ⟨trivial,trivial⟩ rfl (.refl _)

/- impl.rowAt$1 -/
def d8m:a0r :=
 (.seq (.reg (tq 2 (.box 2 (.t 0)) (tm 4 (.c (.int .i64 0)) .done)))
 (.seq (.reg (tq 5 (.faddr 0 (.t 2)) (tq 6 (.load 1 false (.t 5)) (tm 7 (.t 1) (tq 8 (.call 114 [(.t 6),(.t 7)]) (tm 4 (.t 8) .done))))))
 .ret))
theorem d8n:a1p Try.prog Try.f113 = some (d8m.erase,[.mov (.t 4)],9):=by kernel_rfl
def a6y (r_1:x9) (id_2:Int):Option Int :=
    (cmp_Compare_int r_1.Id id_2).bind fun r_3 =>
    some r_3
theorem c1i (r_1:x9) (id_2:Int) (r:Int) (hf:a6y r_1 id_2 = some r):a0d Try.prog 113 .flat [(l9 r_1),(.int .i64 id_2)] (.int .i64 r):=by
  refine a0d.of_awp mixed Try.func113 d8n nle ?_
  rw [a0t]
  unfold a6y at hf
  unfold d8m
  refine (show awp Try.prog false 0 _ (ofL [(0,(l9 r_1)),(1,(.int .i64 id_2))]) [] _ from ?_)
  refine o6 ?_
  refine a0y ?_
  refine a0b (a2t (j:=0) (c:=(.agg [(.int .i64 r_1.Id),(.lst 1 (r_1.Cells.map (o8 3 o5)))])) rfl trivial rfl rfl) ?_
  refine a0b (b0c (.int .i64 0) rfl) ?_
  refine a0m ?_
  refine a0g ?_
  refine o6 ?_
  refine a0y ?_
  obtain ⟨r_3,er4,hf⟩:=ob hf
  refine a0b (o_q (.ptr 0 0 0) rfl trivial rfl) ?_
  refine a0b (o_q (.int .i64 r_1.Id) rfl nle rfl) ?_
  refine a0b (b0c (.int .i64 id_2) rfl) ?_
  refine a0b (a1t (b6w _ _ _ er4) rfl (.refl _) rfl) ?_
  refine a0b (b0c (.int .i64 r_3) rfl) ?_
  refine a0m ?_
  refine a0g ?_
  refine a0k ?_
  obtain rfl:=os hf
  exact a0l ⟨trivial,trivial⟩ rfl (.refl _)

/- impl.rowAt -/
def d0z:a0r :=
 (.seq (.reg (tm 4 (.c (.int .i64 0)) (tm 5 (.c (.bool false)) .done)))
 (.seq (.reg (tm 6 (.t 0) (tm 7 (.t 1) (tq 8 (.call 112 [(.t 6),(.t 7),(.c (.fn 113 []))]) (tq 9 (.extract 0 (.t 8)) (tq 10 (.extract 1 (.t 8)) (tm 4 (.t 9) (tm 5 (.t 10) .done))))))))
 .ret))
theorem d8o:a1p Try.prog Try.f100 = some (d0z.erase,[.mov (.t 4),.mov (.t 5)],11):=by kernel_rfl
def a9u (rows_1:(List x9)) (id_2:Int):Option (Int × Bool) :=
    (a1o rows_1 id_2 a6y).bind fun r_3 =>
    some (r_3.1,r_3.2)
theorem c5d (rows_1:(List x9)) (id_2:Int) (r:(Int × Bool)) (hf:a9u rows_1 id_2 = some r):a0d Try.prog 100 .flat [(.lst 2 (rows_1.map l9)),(.int .i64 id_2)] (.tup [(.int .i64 r.1),(.bool r.2)]):=by
  refine a0d.of_awp mixed Try.func100 d8o nle ?_
  rw [a0t]
  unfold a9u at hf
  unfold d0z
  refine (show awp Try.prog false 0 _ (ofL [(0,(.lst 2 (rows_1.map l9))),(1,(.int .i64 id_2))]) [] _ from ?_)
  refine o6 ?_
  refine a0y ?_
  refine a0b (b0c (.int .i64 0) rfl) ?_
  refine a0b (b0c (.bool false) rfl) ?_
  refine a0m ?_
  refine a0g ?_
  refine o6 ?_
  refine a0y ?_
  obtain ⟨r_3,er4,hf⟩:=ob hf
  refine a0b (b0c (.lst 2 (rows_1.map l9)) rfl) ?_
  refine a0b (b0c (.int .i64 id_2) rfl) ?_
  refine a0b (a1t (a6j _ _ _ _ er4 113 [] (by kernel_rfl) (fun _ _ => rfl) (fun _ => rfl) (fun a0 a1 r h => c1i a0 a1 r h)) rfl (.refl _) rfl) ?_
  refine a0b (o_q (.int .i64 r_3.1) rfl nle rfl) ?_
  refine a0b (o_q (.bool r_3.2) rfl nle rfl) ?_
  refine a0b (b0c (.int .i64 r_3.1) rfl) ?_
  refine a0b (b0c (.bool r_3.2) rfl) ?_
  refine a0m ?_
  refine a0g ?_
  refine a0k ?_
  obtain rfl:=os hf
  exact a0l ⟨trivial,⟨trivial,trivial⟩⟩ rfl (.refl _)

/- slices.Clone[[]impl.Atom,impl.Atom] -/
def c97:a0r :=
 (.seq (.reg (tm 2 (.c .nil) .done))
 (.seq (.seq (.reg (tm 3 (.t 0) (tq 4 (.isnil false (.t 3)) .done)))
 (.cond (.t 4) (.seq (.reg (tm 2 (.c .nil) .done))
 .ret)
 .skip))
 (.seq (.reg (tq 5 (.bslice 3 []) (tm 6 (.t 0) (tq 7 (.append 3 32 (.t 5) (.t 6)) (tm 2 (.t 7) .done)))))
 .ret)))
theorem e0b:a1p Try.prog Try.f97 = some (c97.erase,[.mov (.t 2)],8):=by kernel_rfl
def a2z (s_1:(List y9)):Option (List y9) :=
    if ([] ++ s_1).length ≤ 2 ^ 30 then
    some ([] ++ s_1)
    else none
theorem a8p (s_1:(List y9)) (r:(List y9)) (hf:a2z s_1 = some r):a0d Try.prog 97 .fresh [(.lst 3 (s_1.map o5))] (.lst 3 (r.map o5)):=by
 refine a0d.of_awp mixed Try.func97 e0b nle ?_;rw [a0t];unfold a2z at hf;unfold c97;refine (show awp Try.prog true 0 _ (ofL [(0,(.lst 3 (s_1.map o5)))]) [] _ from ?_);refine sr<|l7 .nil rfl<|dk<|o6<|sr<|l7 (.lst 3 (s_1.map o5)) rfl<|d8a (l:=s_1.map o5) rfl<|?_
 intro b hb3
 rcases b with _ | _
 ·refine dk<|y7 rfl rfl<|a0e<|a0g<|sr<|?_
  obtain ⟨g2,hf⟩:=og hf
  refine a0b (a3t (j:=0) (as':=[]) rfl (fun _ => by decide) trivial (.refl _) rfl rfl rfl) ?_;refine l7 (.lst 3 (s_1.map o5)) rfl ?_
  refine a0b (a4m (j:=1) (L:=(([] ++ s_1).map o5)) (len:=([] ++ s_1).length) rfl false rfl rfl (fun _ => flm (fun _ => rfl) _) (fun _ _ _ => flm (fun _ => rfl) _) (by decide) ((by simp)) (by simp <;> omega) g2 rfl rfl) ?_
  refine l7 (.own 1 0 (([] ++ s_1).length)) rfl<|dk<|a0k<|?_;obtain rfl:=os hf;exact a4v ⟨trivial,trivial⟩ rfl (by decide) (.of_eq (congrArg (AV.lst _) (tk (enc:=o5) ([] ++ s_1))))
 ·have he4:s_1 = []:=d6x (hb3 rfl)
  have hE:(if ([] ++ s_1).length ≤ 2 ^ 30 then some ([] ++ s_1) else none) = (some []):=by simp [he4]
  rw [hE] at hf;refine dk<|y5 rfl rfl<|sr<|l7 .nil rfl<|dk<|a0k<|?_;obtain rfl:=os hf;exact a4v ⟨trivial,trivial⟩ rfl (by decide) (.nil _)

/- impl.copyRow -/
def c76:a0r :=
 (.seq (.reg (tq 1 (.box 2 (.t 0)) (tq 2 (.box 2 (.c (.agg [(.int .i64 0),.nil]))) .done)))
 (.seq (.reg (tq 6 (.bslice 1 []) (tm 3 (.t 6) .done)))
 (.seq (.seq (.reg (tq 7 (.faddr 1 (.t 1)) (tq 8 (.load 1 false (.t 7)) (tq 9 (.len (.t 8)) (tm 10 (.c (.int .i64 0)) .done)))))
 (.block 0 (.loop (.seq (.reg (tq 11 (.bin .lss (.t 10) (.t 9)) .done))
 (.seq (.cond (.t 11) .skip
 (.exit 0))
 (.seq (.block 1 (.seq (.reg (tq 12 (.iaddr 1 (.t 8) (.t 10)) (tq 13 (.load 1 false (.t 12)) (tm 5 (.t 13) .done))))
 (.reg (tm 14 (.t 3) (tm 15 (.t 5) (tq 16 (.call 97 [(.t 15)]) (tq 17 (.bslice 1 [(.t 16)]) (tq 18 (.append 1 24 (.t 14) (.t 17)) (tm 3 (.t 18) .done)))))))))
 (.reg (tq 19 (.bin .add (.t 10) (.c (.int .i64 1))) (tm 10 (.t 19) .done)))))))))
 (.cut (.seq (.seq (.reg (tq 20 (.faddr 1 (.t 1)) (.q ⟨none,none,.store 1 (.t 20) (.c .nil)⟩
 .done)))
 (.seq (.reg (tm 21 (.t 3) (tq 22 (.len (.t 21)) (tq 23 (.bin .gtr (.t 22) (.c (.int .i64 0))) .done))))
 (.cond (.t 23) (.reg (tm 24 (.t 3) (tq 25 (.faddr 1 (.t 1)) (.q ⟨none,none,.store 1 (.t 25) (.t 24)⟩
 .done))))
 .skip)))
 (.seq (.reg (tq 26 (.load 2 true (.t 1)) (.q ⟨none,none,.store 2 (.t 2) (.t 26)⟩
 .done)))
 .ret))))))
theorem e0c:a1p Try.prog Try.f76 = some (c76.erase,[.load 2 true (.t 2)],27):=by kernel_rfl
def a4j :List (List y9) → (List (List y9)) → Option (List (List y9))
  | [],cells_18 =>
    some cells_18
  | x_33 :: xs,cells_18 =>
    (a2z x_33).bind fun r_34 =>
    if (cells_18 ++ [r_34]).length ≤ 2 ^ 30 then
    a4j xs  (cells_18 ++ [r_34])
    else none

def a9k (r_1:x9):Option x9 :=
    (a4j r_1.Cells []).bind fun cells_25 =>
    if (decide ((cells_25.length:Int) > 0)) then
    some (⟨r_1.Id,cells_25⟩:x9)
    else
    some (⟨r_1.Id,[]⟩:x9)
theorem c1j (r_1:x9) (r:x9) (hf:a9k r_1 = some r):a0d Try.prog 76 .fresh [(l9 r_1)] (l9 r):=by
 refine a0d.of_awp mixed Try.func76 e0c nle ?_;rw [a0t];unfold a9k at hf;unfold c76;refine (show awp Try.prog true 0 _ (ofL [(0,(l9 r_1))]) [] _ from ?_);refine sr<|a0b (a2t (j:=0) (c:=(.agg [(.int .i64 r_1.Id),(.lst 1 (r_1.Cells.map (o8 3 o5)))])) rfl trivial rfl rfl)<|a0b (a2t (j:=1) (c:=(.agg [(.int .i64 0),.nil])) rfl trivial rfl rfl)<|dk<|sr<|?_;refine a0b (a3t (j:=2) (as':=[]) rfl (fun _ => by decide) trivial (.refl _) rfl rfl rfl) ?_;refine l7 (.own 2 0 0) rfl<|dk<|o6<|sr<|y8 (.ptr 0 0 1) rfl trivial rfl<|y8 (.lst 1 (r_1.Cells.map (o8 3 o5))) rfl nle rfl<|a0o (a1c (enc:=(o8 3 o5)) rfl) fun hl2 => ?_
 refine l7 (.int .i64 0) rfl<|dk<|?_
 obtain ⟨cells_25,hb1,hf⟩:=ob hf
 refine a2e ([(1,(.ptr 0 0 0)),(2,(.ptr 1 0 0)),(3,(.own 2 0 cells_25.length))],[.box 2 (.agg [(.int .i64 r_1.Id),(.lst 1 (r_1.Cells.map (o8 3 o5)))]),.box 2 (.agg [(.int .i64 0),.nil]),.row 1 (cells_25.map (o8 3 o5))]) ?_ ?_
 ·refine a0z (X:={q:(Nat × (List (List y9))) // a4j (r_1.Cells.drop q.1) q.2 = some cells_25}) (fun q => ([(1,(.ptr 0 0 0)),(2,(.ptr 1 0 0)),(3,(.own 2 0 q.1.2.length)),(8,(.lst 1 (r_1.Cells.map (o8 3 o5)))),(9,(.int .i64 (r_1.Cells.length:Int))),(10,(.int .i64 (q.1.1:Int)))],[.box 2 (.agg [(.int .i64 r_1.Id),(.lst 1 (r_1.Cells.map (o8 3 o5)))]),.box 2 (.agg [(.int .i64 0),.nil]),.row 1 (q.1.2.map (o8 3 o5))])) (fun q => r_1.Cells.length - q.1.1) ⟨(0,[]),hb1⟩ ⟨[],[0,1,2],_,_,rfl,rfl,⟨.refl _,⟨.refl _,⟨.of_eq (congrArg (AV.own _ 0) (by simp)),⟨.refl _,⟨.refl _,⟨.refl _,trivial⟩⟩⟩⟩⟩⟩,(.refl _)⟩ ?_
  rintro ⟨⟨s10_17,cells_18⟩,hc1⟩
  have hc1:a4j (r_1.Cells.drop s10_17) cells_18 = some cells_25:=hc1
  refine (show awp Try.prog true 0 _ (ofL [(1,(.ptr 0 0 0)),(2,(.ptr 1 0 0)),(3,(.own 2 0 cells_18.length)),(8,(.lst 1 (r_1.Cells.map (o8 3 o5)))),(9,(.int .i64 (r_1.Cells.length:Int))),(10,(.int .i64 (s10_17:Int)))]) [.box 2 (.agg [(.int .i64 r_1.Id),(.lst 1 (r_1.Cells.map (o8 3 o5)))]),.box 2 (.agg [(.int .i64 0),.nil]),.row 1 (cells_18.map (o8 3 o5))] _ from ?_)
  rcases a5c r_1.Cells s10_17 with ⟨hie29,hd32⟩ | ⟨hlt27,x_33,hx28,hd32⟩
  ·rw [hd32,a4j.eq_1] at hc1
   have hq31:=dlf hie29
   refine sr<|y8 (.bool (decide ((s10_17:Int) < (r_1.Cells.length:Int)))) rfl rfl rfl<|dk<|o6<|y7 rfl hq31<|a1y<|a1x<|a1i<|a1w<|?_;obtain rfl:=os hc1;exact ⟨[],[0,1,2],_,_,rfl,rfl,⟨.refl _,⟨.refl _,⟨.refl _,trivial⟩⟩⟩,(.refl _)⟩
  ·rw [hd32,a4j.eq_2] at hc1
   have hq31:=dlt hlt27
   refine sr<|y8 (.bool (decide ((s10_17:Int) < (r_1.Cells.length:Int)))) rfl rfl rfl<|dk<|o6<|y5 rfl hq31<|a0e<|a0g<|o6<|a3j<|sr<|a0b (a1a (enc:=(o8 3 o5)) rfl rfl hx28)<|y8 (.lst 3 (x_33.map o5)) rfl ⟨rfl,rfl⟩ rfl<|l7 (.lst 3 (x_33.map o5)) rfl<|dk<|a0y<|?_
   obtain ⟨r_34,er35,hc1⟩:=ob hc1
   obtain ⟨g36,hc1⟩:=og hc1
   refine l7 (.own 2 0 cells_18.length) rfl<|l7 (.lst 3 (x_33.map o5)) rfl<|a0b (a3f (v:=(.own 3 0 r_34.length)) (h':=[.row 3 (r_34.map o5)]) (a8p _ _ er35) rfl (.refl _) (by simp only [a1s,a1v,List.length_map,List.nil_append,List.append_nil,List.cons_append];rfl))<|?_;refine a0b (a3t (j:=4) (as':=[(.lst 3 (r_34.map o5))]) rfl (fun _ => by decide) ⟨rfl,trivial⟩ (.cons (.of_eq (congrArg (AV.lst _) (tk (enc:=o5) r_34))) .nil) rfl rfl rfl) ?_
   refine a0b (a4m (j:=5) (L:=((cells_18 ++ [r_34]).map (o8 3 o5))) (len:=(cells_18 ++ [r_34]).length) rfl true rfl rfl (fun h => Bool.noConfusion h) (fun _ _ h => (b5x (show AV.own _ _ _ = AV.lst _ _ from h)).elim) (by decide) (c7d (enc:=(o8 3 o5)) cells_18 [r_34] _ (by rfl)) (by simp <;> omega) g36 rfl rfl) ?_
   refine l7 (.own 5 0 ((cells_18 ++ [r_34]).length)) rfl<|a0m<|a2s<|a0g<|a0y<|y8 (.int .i64 (w64 ((s10_17:Int) + 1))) rfl rfl rfl<|l7 (.int .i64 (w64 ((s10_17:Int) + 1))) rfl<|a0m<|?_;exact a1e ⟨((s10_17 + 1),cells_18 ++ [r_34]),hc1⟩ (mul hlt27) ⟨[],[0,1,5],_,_,rfl,rfl,⟨.refl _,⟨.refl _,⟨.refl _,⟨.refl _,⟨.refl _,⟨.of_eq (congrArg (AV.int _) (a1j hlt27 hl2)),trivial⟩⟩⟩⟩⟩⟩,(.refl _)⟩
 ·refine o6<|sr<|y8 (.ptr 0 0 1) rfl trivial rfl<|a4o (a1h (v:=.nil) (y':=(.agg [(.int .i64 r_1.Id),.nil])) rfl rfl rfl trivial ⟨rfl,nle⟩ ⟨⟨rfl,trivial⟩,trivial⟩ rfl)<|dk<|sr<|l7 (.own 2 0 cells_25.length) rfl<|a0o (a5f rfl rfl) fun hl37 => y8 (.bool (decide ((cells_25.length:Int) > 0))) rfl rfl rfl<|dk<|?_
  rcases oi hf with ⟨c38,hf⟩ | ⟨c38,hf⟩
  ·refine y5 rfl c38<|a0y<|l7 (.own 2 0 cells_25.length) rfl<|y8 (.ptr 0 0 1) rfl trivial rfl<|a4o (a1h (v:=(.own 2 0 cells_25.length)) (y':=(.agg [(.int .i64 r_1.Id),(.own 2 0 cells_25.length)])) rfl rfl rfl trivial ⟨rfl,nle⟩ ⟨⟨rfl,trivial⟩,trivial⟩ rfl)<|dk<|sr<|y8 (.agg [(.int .i64 r_1.Id),(.own 2 0 cells_25.length)]) rfl nle rfl<|a4o (a1h (v:=(.agg [(.int .i64 r_1.Id),(.own 2 0 cells_25.length)])) (y':=(.agg [(.int .i64 r_1.Id),(.own 2 0 cells_25.length)])) rfl rfl rfl trivial ⟨rfl,nle⟩ ⟨⟨rfl,trivial⟩,⟨⟨rfl,trivial⟩,trivial⟩⟩ rfl)<|dk<|a0k<|?_;obtain rfl:=os hf;exact a4v ⟨nle,trivial⟩ rfl (by decide) (.agg (.cons (.refl _) (.cons (.of_eq (congrArg (AV.lst _) (tk (enc:=(o8 3 o5)) cells_25))) .nil)))
  ·refine y7 rfl (bf c38)<|a0e<|a0g<|sr<|y8 (.agg [(.int .i64 r_1.Id),.nil]) rfl nle rfl<|a4o (a1h (v:=(.agg [(.int .i64 r_1.Id),.nil])) (y':=(.agg [(.int .i64 r_1.Id),.nil])) rfl rfl rfl trivial ⟨rfl,nle⟩ ⟨⟨rfl,trivial⟩,⟨⟨rfl,trivial⟩,trivial⟩⟩ rfl)<|dk<|a0k<|?_;obtain rfl:=os hf;exact a4v ⟨nle,trivial⟩ rfl (by decide) (.agg (.cons (.refl _) (.cons (.nil _) .nil)))

/- impl.rowOf -/
def c79:a0r :=
 (.seq (.reg (tq 4 (.box 2 (.c (.agg [(.int .i64 0),.nil]))) .done))
 (.seq (.reg (tm 8 (.t 0) (tm 9 (.t 1) (tq 10 (.call 100 [(.t 8),(.t 9)]) (tm 7 (.t 10) (tq 11 (.extract 0 (.t 7)) (tq 12 (.extract 1 (.t 7)) (tm 5 (.t 11) (tm 6 (.t 12) .done)))))))))
 (.seq (.seq (.reg (tm 13 (.t 6) (tq 14 (.not (.t 13)) .done)))
 (.cond (.t 14) (.seq (.reg (tq 15 (.build [(.int .i64 0),.nil] []) (.q ⟨none,none,.store 2 (.t 4) (.t 15)⟩
 .done)))
 .ret)
 .skip))
 (.seq (.reg (tm 16 (.t 0) (tm 17 (.t 5) (tq 18 (.iaddr 2 (.t 16) (.t 17)) (tq 19 (.load 2 true (.t 18)) (tq 20 (.call 76 [(.t 19)]) (.q ⟨none,none,.store 2 (.t 4) (.t 20)⟩
 .done)))))))
 .ret))))
theorem e0d:a1p Try.prog Try.f79 = some (c79.erase,[.load 2 true (.t 4)],21):=by kernel_rfl
def a9v (rows_1:(List x9)) (id_2:Int):Option x9 :=
    (a9u rows_1 id_2).bind fun r_3 =>
    if (!r_3.2) then
    some (⟨0,[]⟩:x9)
    else
    (idx rows_1 r_3.1).bind fun x_6 =>
    (a9k x_6).bind fun r_8 =>
    some r_8
theorem b6x (rows_1:(List x9)) (id_2:Int) (r:x9) (hf:a9v rows_1 id_2 = some r):a0d Try.prog 79 .fresh [(.lst 2 (rows_1.map l9)),(.int .i64 id_2)] (l9 r):=by
 refine a0d.of_awp mixed Try.func79 e0d nle ?_;rw [a0t];unfold a9v at hf;unfold c79;refine (show awp Try.prog true 0 _ (ofL [(0,(.lst 2 (rows_1.map l9))),(1,(.int .i64 id_2))]) [] _ from ?_);refine sr<|a0b (a2t (j:=0) (c:=(.agg [(.int .i64 0),.nil])) rfl trivial rfl rfl)<|dk<|sr<|?_
 obtain ⟨r_3,er4,hf⟩:=ob hf
 refine l7 (.lst 2 (rows_1.map l9)) rfl<|l7 (.int .i64 id_2) rfl<|a0b (a1t (c5d _ _ _ er4) rfl (.refl _) rfl)<|l7 (.tup [(.int .i64 r_3.1),(.bool r_3.2)]) rfl<|y8 (.int .i64 r_3.1) rfl nle rfl<|y8 (.bool r_3.2) rfl nle rfl<|l7 (.int .i64 r_3.1) rfl<|l7 (.bool r_3.2) rfl<|dk<|o6<|sr<|l7 (.bool r_3.2) rfl<|y8 (.bool (!r_3.2)) rfl trivial rfl<|dk<|?_
 rcases oi hf with ⟨c5,hf⟩ | ⟨c5,hf⟩
 ·refine y5 rfl c5<|sr<|y8 (.agg [(.int .i64 0),.nil]) rfl trivial rfl<|a4o (a1h (v:=(.agg [(.int .i64 0),.nil])) (y':=(.agg [(.int .i64 0),.nil])) rfl rfl rfl trivial ⟨rfl,nle⟩ ⟨⟨rfl,trivial⟩,⟨⟨rfl,trivial⟩,trivial⟩⟩ rfl)<|dk<|a0k<|?_;obtain rfl:=os hf;exact a4v ⟨nle,trivial⟩ rfl (by decide) (.agg (.cons (.refl _) (.cons (.nil _) .nil)))
 ·refine y7 rfl (bf c5)<|a0e<|a0g<|sr<|?_
  obtain ⟨x_6,ex7,hf⟩:=ob hf
  obtain ⟨r_8,er9,hf⟩:=ob hf
  refine l7 (.lst 2 (rows_1.map l9)) rfl<|l7 (.int .i64 r_3.1) rfl<|a0b (a4w (enc:=l9) rfl rfl (b0q ex7) (b0r ex7))<|y8 (l9 x_6) rfl nle rfl<|a0b (a3f (v:=(.agg [(.int .i64 r_8.Id),(.own 1 0 r_8.Cells.length)])) (h':=[.row 1 (r_8.Cells.map (o8 3 o5))]) (c1j _ _ er9) rfl (.refl _) (by simp only [a1s,a1v,List.length_map,a6l,List.nil_append,List.append_nil,List.cons_append];rfl))<|a4o (a1h (v:=(.agg [(.int .i64 r_8.Id),(.own 1 0 r_8.Cells.length)])) (y':=(.agg [(.int .i64 r_8.Id),(.own 1 0 r_8.Cells.length)])) rfl rfl rfl trivial ⟨rfl,nle⟩ ⟨⟨rfl,trivial⟩,⟨⟨rfl,trivial⟩,trivial⟩⟩ rfl)<|dk<|?_
  refine a0k ?_;obtain rfl:=os hf;exact a4v ⟨nle,trivial⟩ rfl (by decide) (.agg (.cons (.refl _) (.cons (.of_eq (congrArg (AV.lst _) (tk (enc:=(o8 3 o5)) r_8.Cells))) .nil)))

/- slices.EqualFunc[[][]impl.Atom,[][]impl.Atom,[]impl.Atom,[]impl.Atom] -/
def c98:a0r :=
 (.seq (.reg (tm 6 (.c (.bool false)) .done))
 (.seq (.seq (.reg (tm 10 (.t 0) (tq 11 (.len (.t 10)) (tm 12 (.t 1) (tq 13 (.len (.t 12)) (tq 14 (.bin .neq (.t 11) (.t 13)) .done))))))
 (.cond (.t 14) (.seq (.reg (tm 6 (.c (.bool false)) .done))
 .ret)
 .skip))
 (.seq (.seq (.reg (tm 15 (.t 0) (tq 16 (.len (.t 15)) (tm 17 (.c (.int .i64 0)) .done))))
 (.block 0 (.loop (.seq (.reg (tq 18 (.bin .lss (.t 17) (.t 16)) .done))
 (.seq (.cond (.t 18) .skip
 (.exit 0))
 (.seq (.block 1 (.seq (.reg (tm 19 (.t 17) (tq 20 (.iaddr 1 (.t 15) (.t 17)) (tq 21 (.load 1 false (.t 20)) (tm 7 (.t 19) (tm 8 (.t 21) .done))))))
 (.seq (.reg (tm 22 (.t 1) (tm 23 (.t 7) (tq 24 (.iaddr 1 (.t 22) (.t 23)) (tq 25 (.load 1 false (.t 24)) (tm 9 (.t 25) .done))))))
 (.seq (.reg (tm 26 (.t 2) (tm 27 (.t 8) (tm 28 (.t 9) (tq 29 (.calv (.t 26) [(.t 27),(.t 28)]) (tq 30 (.not (.t 29)) .done))))))
 (.cond (.t 30) (.seq (.reg (tm 6 (.c (.bool false)) .done))
 .ret)
 .skip)))))
 (.reg (tq 31 (.bin .add (.t 17) (.c (.int .i64 1))) (tm 17 (.t 31) .done)))))))))
 (.cut (.seq (.reg (tm 6 (.c (.bool true)) .done))
 .ret)))))
theorem e0e:a1p Try.prog Try.f98 = some (c98.erase,[.mov (.t 6)],32):=by kernel_rfl
def a0a (s2_2:(List (List y9))) (eq_3:((List y9) → (List y9) → Option Bool)):List (List y9) → Nat → Option (Fl Bool Unit)
  | [],s17_25 =>
    some (.go ())
  | x_41 :: xs,s17_25 =>
    (idx s2_2 (s17_25:Int)).bind fun x_42 =>
    (eq_3 x_41 x_42).bind fun r_44 =>
    if (!r_44) then
    some (.ret false)
    else
    a0a s2_2 eq_3 xs (s17_25 + 1)

def a0p (s1_1:(List (List y9))) (s2_2:(List (List y9))) (eq_3:((List y9) → (List y9) → Option Bool)):Option Bool :=
    if ((s1_1.length:Int) != (s2_2.length:Int)) then
    some false
    else
    (a0a s2_2 eq_3 s1_1 0).bind fun q => (match q with
    | .ret r => some r
    | .go _ =>
    some true)
theorem a4y (s1_1:(List (List y9))) (s2_2:(List (List y9))) (eq_3:((List y9) → (List y9) → Option Bool)) (r:Bool) (hf:a0p s1_1 s2_2 eq_3 = some r) (kf_eq_3:Nat) (cf_eq_3:List AV) (okf_eq_3:c8k Try.prog kf_eq_3 = true) (hcf_eq_3:∀ h p,a3k h p cf_eq_3 = some cf_eq_3) (hrf_eq_3:∀ f,a6u f cf_eq_3 = cf_eq_3) (hpf_eq_3:∀ a0 a1 r,eq_3 a0 a1 = some r → a0d Try.prog kf_eq_3 .flat ([(.lst 3 (a0.map o5)),(.lst 3 (a1.map o5))] ++ cf_eq_3) (.bool r)):a0d Try.prog 98 .flat [(.lst 1 (s1_1.map (o8 3 o5))),(.lst 1 (s2_2.map (o8 3 o5))),(.fn kf_eq_3 cf_eq_3)] (.bool r):=by
 refine a0d.of_awp mixed Try.func98 e0e nle ?_;rw [a0t];unfold a0p at hf;unfold c98;refine (show awp Try.prog false 0 _ (ofL [(0,(.lst 1 (s1_1.map (o8 3 o5)))),(1,(.lst 1 (s2_2.map (o8 3 o5)))),(2,(.fn kf_eq_3 cf_eq_3))]) [] _ from ?_);refine sr<|l7 (.bool false) rfl<|dk<|o6<|sr<|l7 (.lst 1 (s1_1.map (o8 3 o5))) rfl<|a0o (a1c (enc:=(o8 3 o5)) rfl) fun hl4 => l7 (.lst 1 (s2_2.map (o8 3 o5))) rfl<|a0o (a1c (enc:=(o8 3 o5)) rfl) fun hl5 => y8 (.bool ((s1_1.length:Int) != (s2_2.length:Int))) rfl rfl rfl<|dk<|?_
 rcases oi hf with ⟨c6,hf⟩ | ⟨c6,hf⟩
 ·refine y5 rfl c6<|sr<|l7 (.bool false) rfl<|dk<|a0k<|?_;obtain rfl:=os hf;exact a0l ⟨trivial,trivial⟩ rfl (.refl _)
 ·refine y7 rfl (bf c6)<|a0e<|a0g<|o6<|sr<|l7 (.lst 1 (s1_1.map (o8 3 o5))) rfl<|a0o (a1c (enc:=(o8 3 o5)) rfl) fun hl7 => l7 (.int .i64 0) rfl<|dk<|?_
  obtain ⟨p34,hb1,hf⟩:=ob hf
  refine a4a (X:={q:Unit // p34 = .go q}) (fun q => ([],[])) ?_ ?_
  ·refine a0z (X:={q:Nat // a0a s2_2 eq_3 (s1_1.drop q) q = some p34}) (fun q => ([(1,(.lst 1 (s2_2.map (o8 3 o5)))),(2,(.fn kf_eq_3 cf_eq_3)),(15,(.lst 1 (s1_1.map (o8 3 o5)))),(16,(.int .i64 (s1_1.length:Int))),(17,(.int .i64 (q.1:Int)))],[])) (fun q => s1_1.length - q.1) ⟨0,hb1⟩ ⟨[],[],_,_,rfl,rfl,⟨.refl _,⟨.of_eq (congrArg (AV.fn _) (hrf_eq_3 _)),⟨.refl _,⟨.refl _,⟨.refl _,trivial⟩⟩⟩⟩⟩,(.refl _)⟩ ?_
   rintro ⟨s17_25,hc1⟩
   have hc1:a0a s2_2 eq_3 (s1_1.drop s17_25) s17_25 = some p34:=hc1
   refine (show awp Try.prog false 0 _ (ofL [(1,(.lst 1 (s2_2.map (o8 3 o5)))),(2,(.fn kf_eq_3 cf_eq_3)),(15,(.lst 1 (s1_1.map (o8 3 o5)))),(16,(.int .i64 (s1_1.length:Int))),(17,(.int .i64 (s17_25:Int)))]) [] _ from ?_)
   rcases a5c s1_1 s17_25 with ⟨hie37,hd40⟩ | ⟨hlt35,x_41,hx36,hd40⟩
   ·rw [hd40,a0a.eq_1] at hc1
    have hq39:=dlf hie37
    refine sr<|y8 (.bool (decide ((s17_25:Int) < (s1_1.length:Int)))) rfl rfl rfl<|dk<|o6<|y7 rfl hq39<|a1y<|a1x<|a1i<|a1w<|?_;obtain rfl:=os hc1;exact a5z ⟨_,rfl⟩ ⟨[],[],_,_,rfl,rfl,trivial,(.refl _)⟩
   ·rw [hd40,a0a.eq_2] at hc1
    have hq39:=dlt hlt35
    refine sr<|y8 (.bool (decide ((s17_25:Int) < (s1_1.length:Int)))) rfl rfl rfl<|dk<|o6<|y5 rfl hq39<|a0e<|a0g<|o6<|a3j<|sr<|l7 (.int .i64 (s17_25:Int)) rfl<|a0b (a1a (enc:=(o8 3 o5)) rfl rfl hx36)<|y8 (.lst 3 (x_41.map o5)) rfl ⟨rfl,rfl⟩ rfl<|l7 (.int .i64 (s17_25:Int)) rfl<|l7 (.lst 3 (x_41.map o5)) rfl<|dk<|sr<|?_
    obtain ⟨x_42,ex43,hc1⟩:=ob hc1
    refine l7 (.lst 1 (s2_2.map (o8 3 o5))) rfl<|l7 (.int .i64 (s17_25:Int)) rfl<|a0b (a4w (enc:=(o8 3 o5)) rfl rfl (b0q ex43) (b0r ex43))<|y8 (.lst 3 (x_42.map o5)) rfl ⟨rfl,rfl⟩ rfl<|l7 (.lst 3 (x_42.map o5)) rfl<|dk<|sr<|?_
    obtain ⟨r_44,er45,hc1⟩:=ob hc1
    refine l7 (.fn kf_eq_3 cf_eq_3) rfl<|l7 (.lst 3 (x_41.map o5)) rfl<|l7 (.lst 3 (x_42.map o5)) rfl<|a0b (b9q (v:=(.bool r_44)) rfl okf_eq_3 hcf_eq_3 (hpf_eq_3 _ _ _ er45) rfl (.refl _) rfl)<|y8 (.bool (!r_44)) rfl trivial rfl<|dk<|?_
    rcases oi hc1 with ⟨c46,hc1⟩ | ⟨c46,hc1⟩
    ·refine y5 rfl c46<|sr<|l7 (.bool false) rfl<|dk<|a0k<|?_;obtain rfl:=os hc1;obtain rfl:=os hf;exact a0l ⟨trivial,trivial⟩ rfl (.refl _)
    ·refine y7 rfl (bf c46)<|a0e<|a2s<|a0g<|a0y<|y8 (.int .i64 (w64 ((s17_25:Int) + 1))) rfl rfl rfl<|l7 (.int .i64 (w64 ((s17_25:Int) + 1))) rfl<|a0m<|?_;exact a1e ⟨(s17_25 + 1),hc1⟩ (mul hlt35) ⟨[],[],_,_,rfl,rfl,⟨.refl _,⟨.of_eq (congrArg (AV.fn _) (hrf_eq_3 _)),⟨.refl _,⟨.refl _,⟨.of_eq (congrArg (AV.int _) (a1j hlt35 hl7)),trivial⟩⟩⟩⟩⟩,(.refl _)⟩
  ·rintro ⟨_,rfl⟩
   refine sr<|l7 (.bool true) rfl<|dk<|a0k<|?_;obtain rfl:=os hf;exact a0l ⟨trivial,trivial⟩ rfl (.refl _)

/- slices.Equal[[]impl.Atom,impl.Atom] -/
def c99:a0r :=
 (.seq (.reg (tm 4 (.c (.bool false)) .done))
 (.seq (.seq (.reg (tm 6 (.t 0) (tq 7 (.len (.t 6)) (tm 8 (.t 1) (tq 9 (.len (.t 8)) (tq 10 (.bin .neq (.t 7) (.t 9)) .done))))))
 (.cond (.t 10) (.seq (.reg (tm 4 (.c (.bool false)) .done))
 .ret)
 .skip))
 (.seq (.seq (.reg (tm 11 (.t 0) (tq 12 (.len (.t 11)) (tm 13 (.c (.int .i64 0)) .done))))
 (.block 0 (.loop (.seq (.reg (tq 14 (.bin .lss (.t 13) (.t 12)) .done))
 (.seq (.cond (.t 14) .skip
 (.exit 0))
 (.seq (.block 1 (.seq (.reg (tm 15 (.t 13) (tm 5 (.t 15) .done)))
 (.seq (.reg (tm 16 (.t 0) (tm 17 (.t 5) (tq 18 (.iaddr 3 (.t 16) (.t 17)) (tq 19 (.load 3 true (.t 18)) (tm 20 (.t 1) (tm 21 (.t 5) (tq 22 (.iaddr 3 (.t 20) (.t 21)) (tq 23 (.load 3 true (.t 22)) (tq 24 (.eqs true [0,0,2] (.t 19) (.t 23)) .done))))))))))
 (.cond (.t 24) (.seq (.reg (tm 4 (.c (.bool false)) .done))
 .ret)
 .skip))))
 (.reg (tq 25 (.bin .add (.t 13) (.c (.int .i64 1))) (tm 13 (.t 25) .done)))))))))
 (.cut (.seq (.reg (tm 4 (.c (.bool true)) .done))
 .ret)))))
theorem e0f:a1p Try.prog Try.f99 = some (c99.erase,[.mov (.t 4)],26):=by kernel_rfl
def a0q (s2_2:(List y9)):List y9 → Nat → Option (Fl Bool Unit)
  | [],s13_20 =>
    some (.go ())
  | x_34 :: xs,s13_20 =>
    (idx s2_2 (s13_20:Int)).bind fun x_35 =>
    if (!(x_34.Kind == x_35.Kind && (x_34.N == x_35.N && (x_34.T == x_35.T && true)))) then
    some (.ret false)
    else
    a0q s2_2 xs (s13_20 + 1)

def a2c (s1_1:(List y9)) (s2_2:(List y9)):Option Bool :=
    if ((s1_1.length:Int) != (s2_2.length:Int)) then
    some false
    else
    (a0q s2_2 s1_1 0).bind fun q => (match q with
    | .ret r => some r
    | .go _ =>
    some true)
theorem a8q (s1_1:(List y9)) (s2_2:(List y9)) (r:Bool) (hf:a2c s1_1 s2_2 = some r):a0d Try.prog 99 .flat [(.lst 3 (s1_1.map o5)),(.lst 3 (s2_2.map o5))] (.bool r):=by
 refine a0d.of_awp mixed Try.func99 e0f nle ?_;rw [a0t];unfold a2c at hf;unfold c99;refine (show awp Try.prog false 0 _ (ofL [(0,(.lst 3 (s1_1.map o5))),(1,(.lst 3 (s2_2.map o5)))]) [] _ from ?_);refine sr<|l7 (.bool false) rfl<|dk<|o6<|sr<|l7 (.lst 3 (s1_1.map o5)) rfl<|a0o (a1c (enc:=o5) rfl) fun hl3 => l7 (.lst 3 (s2_2.map o5)) rfl<|a0o (a1c (enc:=o5) rfl) fun hl4 => y8 (.bool ((s1_1.length:Int) != (s2_2.length:Int))) rfl rfl rfl<|dk<|?_
 rcases oi hf with ⟨c5,hf⟩ | ⟨c5,hf⟩
 ·refine y5 rfl c5<|sr<|l7 (.bool false) rfl<|dk<|a0k<|?_;obtain rfl:=os hf;exact a0l ⟨trivial,trivial⟩ rfl (.refl _)
 ·refine y7 rfl (bf c5)<|a0e<|a0g<|o6<|sr<|l7 (.lst 3 (s1_1.map o5)) rfl<|a0o (a1c (enc:=o5) rfl) fun hl6 => l7 (.int .i64 0) rfl<|dk<|?_
  obtain ⟨p27,hb1,hf⟩:=ob hf
  refine a4a (X:={q:Unit // p27 = .go q}) (fun q => ([],[])) ?_ ?_
  ·refine a0z (X:={q:Nat // a0q s2_2 (s1_1.drop q) q = some p27}) (fun q => ([(0,(.lst 3 (s1_1.map o5))),(1,(.lst 3 (s2_2.map o5))),(12,(.int .i64 (s1_1.length:Int))),(13,(.int .i64 (q.1:Int)))],[])) (fun q => s1_1.length - q.1) ⟨0,hb1⟩ ⟨[],[],_,_,rfl,rfl,⟨.refl _,⟨.refl _,⟨.refl _,⟨.refl _,trivial⟩⟩⟩⟩,(.refl _)⟩ ?_
   rintro ⟨s13_20,hc1⟩
   have hc1:a0q s2_2 (s1_1.drop s13_20) s13_20 = some p27:=hc1
   refine (show awp Try.prog false 0 _ (ofL [(0,(.lst 3 (s1_1.map o5))),(1,(.lst 3 (s2_2.map o5))),(12,(.int .i64 (s1_1.length:Int))),(13,(.int .i64 (s13_20:Int)))]) [] _ from ?_)
   rcases a5c s1_1 s13_20 with ⟨hie30,hd33⟩ | ⟨hlt28,x_34,hx29,hd33⟩
   ·rw [hd33,a0q.eq_1] at hc1
    have hq32:=dlf hie30
    refine sr<|y8 (.bool (decide ((s13_20:Int) < (s1_1.length:Int)))) rfl rfl rfl<|dk<|o6<|y7 rfl hq32<|a1y<|a1x<|a1i<|a1w<|?_;obtain rfl:=os hc1;exact a5z ⟨_,rfl⟩ ⟨[],[],_,_,rfl,rfl,trivial,(.refl _)⟩
   ·rw [hd33,a0q.eq_2] at hc1
    have hq32:=dlt hlt28
    refine sr<|y8 (.bool (decide ((s13_20:Int) < (s1_1.length:Int)))) rfl rfl rfl<|dk<|o6<|y5 rfl hq32<|a0e<|a0g<|o6<|a3j<|sr<|l7 (.int .i64 (s13_20:Int)) rfl<|l7 (.int .i64 (s13_20:Int)) rfl<|dk<|sr<|?_
    obtain ⟨x_35,ex36,hc1⟩:=ob hc1
    refine l7 (.lst 3 (s1_1.map o5)) rfl<|l7 (.int .i64 (s13_20:Int)) rfl<|a0b (a1a (enc:=o5) rfl rfl hx29)<|y8 (o5 x_34) rfl nle rfl<|l7 (.lst 3 (s2_2.map o5)) rfl<|l7 (.int .i64 (s13_20:Int)) rfl<|a0b (a4w (enc:=o5) rfl rfl (b0q ex36) (b0r ex36))<|y8 (o5 x_35) rfl nle rfl<|y8 (.bool (!(x_34.Kind == x_35.Kind && (x_34.N == x_35.N && (x_34.T == x_35.T && true))))) rfl ⟨⟨rfl,rfl⟩,⟨⟨rfl,rfl⟩,⟨rfl,trivial⟩⟩⟩ rfl<|dk<|?_
    rcases oi hc1 with ⟨c37,hc1⟩ | ⟨c37,hc1⟩
    ·refine y5 rfl c37<|sr<|l7 (.bool false) rfl<|dk<|a0k<|?_;obtain rfl:=os hc1;obtain rfl:=os hf;exact a0l ⟨trivial,trivial⟩ rfl (.refl _)
    ·refine y7 rfl (bf c37)<|a0e<|a2s<|a0g<|a0y<|y8 (.int .i64 (w64 ((s13_20:Int) + 1))) rfl rfl rfl<|l7 (.int .i64 (w64 ((s13_20:Int) + 1))) rfl<|a0m<|?_;exact a1e ⟨(s13_20 + 1),hc1⟩ (mul hlt28) ⟨[],[],_,_,rfl,rfl,⟨.refl _,⟨.refl _,⟨.refl _,⟨.of_eq (congrArg (AV.int _) (a1j hlt28 hl6)),trivial⟩⟩⟩⟩,(.refl _)⟩
  ·rintro ⟨_,rfl⟩
   refine sr<|l7 (.bool true) rfl<|dk<|a0k<|?_;obtain rfl:=os hf;exact a0l ⟨trivial,trivial⟩ rfl (.refl _)

/- impl.sameRow -/
def c78:a0r :=
 (.seq (.reg (tq 2 (.box 2 (.t 0)) (tq 3 (.box 2 (.t 1)) (tm 4 (.c (.bool false)) .done))))
 (.seq (.reg (tq 5 (.faddr 0 (.t 2)) (tq 6 (.load 1 false (.t 5)) (tq 7 (.faddr 0 (.t 3)) (tq 8 (.load 1 false (.t 7)) (tq 9 (.bin .eql (.t 6) (.t 8)) (tm 10 (.t 9) (tg 11 10 true (.faddr 1 (.t 2)) (tg 12 10 true (.load 1 false (.t 11)) (tg 13 10 true (.faddr 1 (.t 3)) (tg 14 10 true (.load 1 false (.t 13)) (tg 15 10 true (.call 98 [(.t 12),(.t 14),(.c (.fn 99 []))]) (tq 16 (.pick (.t 10) (.t 15) (.c (.bool false))) (tm 4 (.t 16) .done))))))))))))))
 .ret))
theorem e0g:a1p Try.prog Try.f78 = some (c78.erase,[.mov (.t 4)],17):=by kernel_rfl
def a9l (a_1:x9) (b_2:x9):Option Bool :=
    if (a_1.Id == b_2.Id) then
    (a0p a_1.Cells b_2.Cells a2c).bind fun r_4 =>
    some r_4
    else
    some false
theorem c1k (a_1:x9) (b_2:x9) (r:Bool) (hf:a9l a_1 b_2 = some r):a0d Try.prog 78 .flat [(l9 a_1),(l9 b_2)] (.bool r):=by
 refine a0d.of_awp mixed Try.func78 e0g nle ?_;rw [a0t];unfold a9l at hf;unfold c78;refine (show awp Try.prog false 0 _ (ofL [(0,(l9 a_1)),(1,(l9 b_2))]) [] _ from ?_);refine sr<|a0b (a2t (j:=0) (c:=(.agg [(.int .i64 a_1.Id),(.lst 1 (a_1.Cells.map (o8 3 o5)))])) rfl trivial rfl rfl)<|a0b (a2t (j:=1) (c:=(.agg [(.int .i64 b_2.Id),(.lst 1 (b_2.Cells.map (o8 3 o5)))])) rfl trivial rfl rfl)<|l7 (.bool false) rfl<|dk<|sr<|y8 (.ptr 0 0 0) rfl trivial rfl<|y8 (.int .i64 a_1.Id) rfl nle rfl<|y8 (.ptr 1 0 0) rfl trivial rfl<|y8 (.int .i64 b_2.Id) rfl nle rfl<|y8 (.bool (a_1.Id == b_2.Id)) rfl rfl rfl<|?_
 refine l7 (.bool (a_1.Id == b_2.Id)) rfl ?_
 rcases oi hf with ⟨c3,hf⟩ | ⟨c3,hf⟩
 ·refine a8u (s:=10) (b:=true) rfl c3<|s_on rfl<|y8 (.ptr 0 0 1) rfl trivial rfl<|s_on rfl<|y8 (.lst 1 (a_1.Cells.map (o8 3 o5))) rfl nle rfl<|s_on rfl<|y8 (.ptr 1 0 1) rfl trivial rfl<|s_on rfl<|y8 (.lst 1 (b_2.Cells.map (o8 3 o5))) rfl nle rfl<|s_on rfl<|?_
  obtain ⟨r_4,er5,hf⟩:=ob hf
  refine a0b (a1t (a4y _ _ _ _ er5 99 [] (by kernel_rfl) (fun _ _ => rfl) (fun _ => rfl) (fun a0 a1 r h => a8q a0 a1 r h)) rfl (.refl _) rfl) ?_;refine y8 (.bool r_4) rfl trivial rfl<|l7 (.bool r_4) rfl<|dk<|a0k<|?_;obtain rfl:=os hf;exact a0l ⟨trivial,trivial⟩ rfl (.refl _)
 ·refine a8u (s:=10) (b:=false) rfl (bf c3)<|a1m rfl rfl<|a1m rfl rfl<|a1m rfl rfl<|a1m rfl rfl<|a1m rfl rfl<|y8 (.bool false) rfl trivial rfl<|l7 (.bool false) rfl<|dk<|a0k<|?_;obtain rfl:=os hf;exact a0l ⟨trivial,trivial⟩ rfl (.refl _)

/- impl.diffRows -/
def c71:a0r :=
 (.seq (.reg (tm 6 (.c .nil) .done))
 (.seq (.reg (tq 15 (.bslice 1 []) (tm 7 (.t 15) .done)))
 (.seq (.seq (.reg (tm 16 (.t 1) (tm 17 (.t 2) (tq 18 (.bslice 1 [(.t 16),(.t 17)]) (tq 19 (.call 92 [(.t 18)]) (tq 20 (.len (.t 19)) (tm 21 (.c (.int .i64 0)) .done)))))))
 (.block 0 (.loop (.seq (.reg (tq 22 (.bin .lss (.t 21) (.t 20)) .done))
 (.seq (.cond (.t 22) .skip
 (.exit 0))
 (.seq (.block 1 (.seq (.reg (tq 23 (.iaddr 2 (.t 19) (.t 21)) (tq 24 (.load 2 true (.t 23)) (tq 9 (.box 2 (.c (.agg [(.int .i64 0),.nil]))) (.q ⟨none,none,.store 2 (.t 9) (.t 24)⟩
 .done)))))
 (.reg (tm 25 (.t 7) (tq 26 (.faddr 0 (.t 9)) (tq 27 (.load 1 false (.t 26)) (tq 28 (.bslice 1 [(.t 27)]) (tq 29 (.append 1 8 (.t 25) (.t 28)) (tm 7 (.t 29) .done)))))))))
 (.reg (tq 30 (.bin .add (.t 21) (.c (.int .i64 1))) (tm 21 (.t 30) .done)))))))))
 (.cut (.seq (.reg (tm 31 (.t 7) (tq 32 (.call 93 [(.t 31)]) .done)))
 (.seq (.reg (tq 33 (.bslice 6 []) (tm 10 (.t 33) .done)))
 (.seq (.seq (.reg (tm 34 (.t 7) (tq 35 (.call 94 [(.t 34)]) (tq 36 (.len (.t 35)) (tm 37 (.c (.int .i64 0)) .done)))))
 (.block 2 (.loop (.seq (.reg (tq 38 (.bin .lss (.t 37) (.t 36)) .done))
 (.seq (.cond (.t 38) .skip
 (.exit 2))
 (.seq (.block 3 (.seq (.reg (tq 39 (.iaddr 1 (.t 35) (.t 37)) (tq 40 (.load 1 false (.t 39)) (tm 12 (.t 40) .done))))
 (.seq (.reg (tm 41 (.t 1) (tm 42 (.t 12) (tq 43 (.call 79 [(.t 41),(.t 42)]) (tm 44 (.t 2) (tm 45 (.t 12) (tq 46 (.call 79 [(.t 44),(.t 45)]) (tq 13 (.box 2 (.c (.agg [(.int .i64 0),.nil]))) (tq 14 (.box 2 (.c (.agg [(.int .i64 0),.nil]))) (.q ⟨none,none,.store 2 (.t 13) (.t 43)⟩
 (.q ⟨none,none,.store 2 (.t 14) (.t 46)⟩
 .done)))))))))))
 (.seq (.reg (tq 47 (.load 2 true (.t 13)) (tq 48 (.load 2 true (.t 14)) (tq 49 (.call 78 [(.t 47),(.t 48)]) (tq 50 (.not (.t 49)) .done)))))
 (.cond (.t 50) (.reg (tm 51 (.t 10) (tm 52 (.t 0) (tm 53 (.t 12) (tq 54 (.load 2 true (.t 13)) (tq 55 (.load 2 true (.t 14)) (tq 56 (.build [(.int .i64 0),(.int .i64 0),(.int .i64 0),.nil,(.int .i64 0),.nil] [(0,1,(.t 52)),(1,1,(.t 53)),(2,2,(.t 54)),(4,2,(.t 55))]) (tq 57 (.bslice 6 [(.t 56)]) (tq 58 (.append 6 80 (.t 51) (.t 57)) (tm 10 (.t 58) .done))))))))))
 .skip)))))
 (.reg (tq 59 (.bin .add (.t 37) (.c (.int .i64 1))) (tm 37 (.t 59) .done)))))))))
 (.cut (.seq (.reg (tm 60 (.t 10) (tm 6 (.t 60) .done)))
 .ret)))))))))
theorem e0h:a1p Try.prog Try.f71 = some (c71.erase,[.mov (.t 6)],61):=by kernel_rfl
def a3p :List x9 → (List Int) → Option (List Int)
  | [],ids_18 =>
    some ids_18
  | x_31 :: xs,ids_18 =>
    if (ids_18 ++ [x_31.Id]).length ≤ 2 ^ 30 then
    a3p xs  (ids_18 ++ [x_31.Id])
    else none

def a2r (r_36:(List Int)) (a_2:(List x9)) (b_3:(List x9)) (table_1:Int):List Int → Nat → (List a0c) → Option (List a0c)
  | [],s37_65,out_66 =>
    some out_66
  | x_87 :: xs,s37_65,out_66 =>
    if s37_65 < r_36.length then
    (a9v a_2 x_87).bind fun r_89 =>
    (a9v b_3 x_87).bind fun r_91 =>
    (a9l r_89 r_91).bind fun r_93 =>
    if (!r_93) then
    if (out_66 ++ [(⟨table_1,x_87,r_89,r_91⟩:a0c)]).length ≤ 2 ^ 30 then
    a2r r_36 a_2 b_3 table_1 xs (s37_65 + 1) (out_66 ++ [(⟨table_1,x_87,r_89,r_91⟩:a0c)])
    else none
    else
    a2r r_36 a_2 b_3 table_1 xs (s37_65 + 1) out_66
    else none

def a8h (table_1:Int) (a_2:(List x9)) (b_3:(List x9)):Option (List a0c) :=
    (a2f [a_2,b_3]).bind fun r_4 =>
    (a3p r_4 []).bind fun ids_23 =>
    (a5n ids_23).bind fun r_33 =>
    (a3u r_33).bind fun r_36 =>
    (a2r r_36 a_2 b_3 table_1 r_36 0 []).bind fun out_79 =>
    some out_79
theorem b9g (table_1:Int) (a_2:(List x9)) (b_3:(List x9)) (r:(List a0c)) (hf:a8h table_1 a_2 b_3 = some r):a0d Try.prog 71 .fresh [(.int .i64 table_1),(.lst 2 (a_2.map l9)),(.lst 2 (b_3.map l9))] (.lst 6 (r.map o7)):=by
 refine a0d.of_awp mixed Try.func71 e0h nle ?_;rw [a0t];unfold a8h at hf;unfold c71;refine (show awp Try.prog true 0 _ (ofL [(0,(.int .i64 table_1)),(1,(.lst 2 (a_2.map l9))),(2,(.lst 2 (b_3.map l9)))]) [] _ from ?_);refine sr<|l7 .nil rfl<|dk<|sr<|?_;refine a0b (a3t (j:=0) (as':=[]) rfl (fun _ => by decide) trivial (.refl _) rfl rfl rfl) ?_;refine l7 (.own 0 0 0) rfl<|dk<|o6<|sr<|?_
 obtain ⟨r_4,er5,hf⟩:=ob hf
 refine l7 (.lst 2 (a_2.map l9)) rfl<|l7 (.lst 2 (b_3.map l9)) rfl<|a0b (d0v (as':=[a_2,b_3].map (o8 2 l9)) rfl rfl ⟨rfl,⟨rfl,trivial⟩⟩ rfl)<|a0b (d4y rfl (a8x _ _ er5) rfl (.refl _) rfl rfl)<|a0o (a1c (enc:=l9) rfl) fun hl6 => l7 (.int .i64 0) rfl<|dk<|?_
 obtain ⟨ids_23,hb1,hf⟩:=ob hf
 refine a2e ([(0,(.int .i64 table_1)),(1,(.lst 2 (a_2.map l9))),(2,(.lst 2 (b_3.map l9))),(7,(.own 0 0 ids_23.length))],[.row 1 (ids_23.map encI)]) ?_ ?_
 ·refine a0z (X:={q:(Nat × (List Int)) // a3p (r_4.drop q.1) q.2 = some ids_23}) (fun q => ([(0,(.int .i64 table_1)),(1,(.lst 2 (a_2.map l9))),(2,(.lst 2 (b_3.map l9))),(7,(.own 0 0 q.1.2.length)),(19,(.lst 2 (r_4.map l9))),(20,(.int .i64 (r_4.length:Int))),(21,(.int .i64 (q.1.1:Int)))],[.row 1 (q.1.2.map encI)])) (fun q => r_4.length - q.1.1) ⟨(0,[]),hb1⟩ ⟨[],[0],_,_,rfl,rfl,⟨.refl _,⟨.refl _,⟨.refl _,⟨.of_eq (congrArg (AV.own _ 0) (by simp)),⟨.refl _,⟨.refl _,⟨.refl _,trivial⟩⟩⟩⟩⟩⟩⟩,(.refl _)⟩ ?_
  rintro ⟨⟨s21_17,ids_18⟩,hc1⟩
  have hc1:a3p (r_4.drop s21_17) ids_18 = some ids_23:=hc1
  refine (show awp Try.prog true 0 _ (ofL [(0,(.int .i64 table_1)),(1,(.lst 2 (a_2.map l9))),(2,(.lst 2 (b_3.map l9))),(7,(.own 0 0 ids_18.length)),(19,(.lst 2 (r_4.map l9))),(20,(.int .i64 (r_4.length:Int))),(21,(.int .i64 (s21_17:Int)))]) [.row 1 (ids_18.map encI)] _ from ?_)
  rcases a5c r_4 s21_17 with ⟨hie27,hd30⟩ | ⟨hlt25,x_31,hx26,hd30⟩
  ·rw [hd30,a3p.eq_1] at hc1
   have hq29:=dlf hie27
   refine sr<|y8 (.bool (decide ((s21_17:Int) < (r_4.length:Int)))) rfl rfl rfl<|dk<|o6<|y7 rfl hq29<|a1y<|a1x<|a1i<|a1w<|?_;obtain rfl:=os hc1;exact ⟨[],[0],_,_,rfl,rfl,⟨.refl _,⟨.refl _,⟨.refl _,⟨.refl _,trivial⟩⟩⟩⟩,(.refl _)⟩
  ·rw [hd30,a3p.eq_2] at hc1
   have hq29:=dlt hlt25
   refine sr<|y8 (.bool (decide ((s21_17:Int) < (r_4.length:Int)))) rfl rfl rfl<|dk<|o6<|y5 rfl hq29<|a0e<|a0g<|o6<|a3j<|sr<|a0b (a1a (enc:=l9) rfl rfl hx26)<|y8 (l9 x_31) rfl nle rfl<|a0b (a2t (j:=1) (c:=(.agg [(.int .i64 0),.nil])) rfl trivial rfl rfl)<|a4o (a1h (v:=(.agg [(.int .i64 x_31.Id),(.lst 1 (x_31.Cells.map (o8 3 o5)))])) (y':=(.agg [(.int .i64 x_31.Id),(.lst 1 (x_31.Cells.map (o8 3 o5)))])) rfl rfl rfl trivial ⟨rfl,nle⟩ ⟨⟨rfl,trivial⟩,⟨⟨rfl,trivial⟩,trivial⟩⟩ rfl)<|dk<|a0y<|?_
   obtain ⟨g32,hc1⟩:=og hc1
   refine l7 (.own 0 0 ids_18.length) rfl<|y8 (.ptr 1 0 0) rfl trivial rfl<|y8 (.int .i64 x_31.Id) rfl nle rfl<|?_;refine a0b (a3t (j:=2) (as':=[(.int .i64 x_31.Id)]) rfl (fun _ => by decide) ⟨rfl,trivial⟩ (.refl _) rfl rfl rfl) ?_
   refine a0b (a4m (j:=3) (L:=((ids_18 ++ [x_31.Id]).map encI)) (len:=(ids_18 ++ [x_31.Id]).length) rfl false rfl rfl (fun _ => flo (enc:=encI) (fun _ => rfl) [x_31.Id] _) (fun _ _ h => (b5x (show AV.own _ _ _ = AV.lst _ _ from h)).elim) (by decide) (c7d (enc:=encI) ids_18 [x_31.Id] _ (by rfl)) (by simp <;> omega) g32 rfl rfl) ?_
   refine l7 (.own 3 0 ((ids_18 ++ [x_31.Id]).length)) rfl<|a0m<|a2s<|a0g<|a0y<|y8 (.int .i64 (w64 ((s21_17:Int) + 1))) rfl rfl rfl<|l7 (.int .i64 (w64 ((s21_17:Int) + 1))) rfl<|a0m<|?_;exact a1e ⟨((s21_17 + 1),ids_18 ++ [x_31.Id]),hc1⟩ (mul hlt25) ⟨[],[3],_,_,rfl,rfl,⟨.refl _,⟨.refl _,⟨.refl _,⟨.refl _,⟨.refl _,⟨.refl _,⟨.of_eq (congrArg (AV.int _) (a1j hlt25 hl6)),trivial⟩⟩⟩⟩⟩⟩⟩,(.refl _)⟩
 ·refine sr<|?_
  obtain ⟨r_33,er34,hf⟩:=ob hf
  refine l7 (.own 0 0 ids_23.length) rfl ?_;refine a0o (b3u (v:=(.tup [])) (h2:=[.row 1 (r_33.map encI)]) [] [0] (fun _ => rfl) (b1x _ _ er34) rfl (.refl _) (.refl _) rfl rfl) fun hl35 => ?_;refine dk<|sr<|?_;refine a0b (a3t (j:=1) (as':=[]) rfl (fun _ => by decide) trivial (.refl _) rfl rfl rfl) ?_;refine l7 (.own 1 0 0) rfl<|dk<|o6<|sr<|?_
  obtain ⟨r_36,er37,hf⟩:=ob hf
  refine l7 (.own 0 0 ids_23.length) rfl ?_;refine a0b (b9p (v:=(.own 2 0 r_36.length)) (h2:=[.dead,.row 6 ([].map o7),.row 1 (r_36.map encI)]) [] [0] (fun _ => rfl) (b1a _ _ er37) rfl (.cons (.of_eq (congrArg (AV.own _ 0) (by have h:=(hl35 0 _ _ _ _ rfl rfl);simpa using h.symm))) .nil) (.refl _) rfl rfl) ?_;refine a0o (a5f rfl rfl) fun hl38 => l7 (.int .i64 0) rfl<|dk<|?_
  obtain ⟨out_79,hb1,hf⟩:=ob hf
  refine a2e ([(10,(.own 0 0 out_79.length))],[.row 6 (out_79.map o7)]) ?_ ?_
  ·refine a0z (X:={q:(Nat × (List a0c)) // a2r r_36 a_2 b_3 table_1 (r_36.drop q.1) q.1 q.2 = some out_79}) (fun q => ([(0,(.int .i64 table_1)),(1,(.lst 2 (a_2.map l9))),(2,(.lst 2 (b_3.map l9))),(10,(.own 0 0 q.1.2.length)),(35,(.own 1 0 r_36.length)),(36,(.int .i64 (r_36.length:Int))),(37,(.int .i64 (q.1.1:Int)))],[.row 6 (q.1.2.map o7),.row 1 (r_36.map encI)])) (fun q => r_36.length - q.1.1) ⟨(0,[]),hb1⟩ ⟨[],[1,2],_,_,rfl,rfl,⟨.refl _,⟨.refl _,⟨.refl _,⟨.of_eq (congrArg (AV.own _ 0) (by simp)),⟨.refl _,⟨.refl _,⟨.refl _,trivial⟩⟩⟩⟩⟩⟩⟩,(.refl _)⟩ ?_
   rintro ⟨⟨s37_65,out_66⟩,hc1⟩
   have hc1:a2r r_36 a_2 b_3 table_1 (r_36.drop s37_65) s37_65 out_66 = some out_79:=hc1
   refine (show awp Try.prog true 0 _ (ofL [(0,(.int .i64 table_1)),(1,(.lst 2 (a_2.map l9))),(2,(.lst 2 (b_3.map l9))),(10,(.own 0 0 out_66.length)),(35,(.own 1 0 r_36.length)),(36,(.int .i64 (r_36.length:Int))),(37,(.int .i64 (s37_65:Int)))]) [.row 6 (out_66.map o7),.row 1 (r_36.map encI)] _ from ?_)
   rcases a5c r_36 s37_65 with ⟨hie83,hd86⟩ | ⟨hlt81,x_87,hx82,hd86⟩
   ·rw [hd86,a2r.eq_1] at hc1
    have hq85:=dlf hie83
    refine sr<|y8 (.bool (decide ((s37_65:Int) < (r_36.length:Int)))) rfl rfl rfl<|dk<|o6<|y7 rfl hq85<|a1y<|a1x<|a1i<|a1w<|?_;obtain rfl:=os hc1;exact ⟨[],[0],_,_,rfl,rfl,⟨.refl _,trivial⟩,(.refl _)⟩
   ·rw [hd86,a2r.eq_2] at hc1
    have hq85:=dlt hlt81
    refine sr<|y8 (.bool (decide ((s37_65:Int) < (r_36.length:Int)))) rfl rfl rfl<|dk<|o6<|y5 rfl hq85<|a0e<|a0g<|o6<|a3j<|sr<|?_
    obtain ⟨g88,hc1⟩:=og hc1
    refine a0b (a5q rfl rfl g88 rfl rfl)<|a0b (a6o (enc:=encI) (v:=(.int .i64 x_87)) rfl rfl hx82 ⟨rfl,rfl⟩ rfl)<|l7 (.int .i64 x_87) rfl<|dk<|sr<|?_
    obtain ⟨r_89,er90,hc1⟩:=ob hc1
    obtain ⟨r_91,er92,hc1⟩:=ob hc1
    refine l7 (.lst 2 (a_2.map l9)) rfl<|l7 (.int .i64 x_87) rfl<|a0b (a3f (v:=(.agg [(.int .i64 r_89.Id),(.own 2 0 r_89.Cells.length)])) (h':=[.row 1 (r_89.Cells.map (o8 3 o5))]) (b6x _ _ _ er90) rfl (.refl _) (by simp only [a1s,a1v,List.length_map,a6l,List.nil_append,List.append_nil,List.cons_append];rfl))<|l7 (.lst 2 (b_3.map l9)) rfl<|l7 (.int .i64 x_87) rfl<|a0b (a3f (v:=(.agg [(.int .i64 r_91.Id),(.own 3 0 r_91.Cells.length)])) (h':=[.row 1 (r_91.Cells.map (o8 3 o5))]) (b6x _ _ _ er92) rfl (.refl _) (by simp only [a1s,a1v,List.length_map,a6l,List.nil_append,List.append_nil,List.cons_append];rfl))<|?_
    refine a0b (a2t (j:=4) (c:=(.agg [(.int .i64 0),.nil])) rfl trivial rfl rfl)<|a0b (a2t (j:=5) (c:=(.agg [(.int .i64 0),.nil])) rfl trivial rfl rfl)<|a4o (a1h (v:=(.agg [(.int .i64 r_89.Id),(.own 2 0 r_89.Cells.length)])) (y':=(.agg [(.int .i64 r_89.Id),(.own 2 0 r_89.Cells.length)])) rfl rfl rfl trivial ⟨rfl,nle⟩ ⟨⟨rfl,trivial⟩,⟨⟨rfl,trivial⟩,trivial⟩⟩ rfl)<|a4o (a1h (v:=(.agg [(.int .i64 r_91.Id),(.own 3 0 r_91.Cells.length)])) (y':=(.agg [(.int .i64 r_91.Id),(.own 3 0 r_91.Cells.length)])) rfl rfl rfl trivial ⟨rfl,nle⟩ ⟨⟨rfl,trivial⟩,⟨⟨rfl,trivial⟩,trivial⟩⟩ rfl)<|dk<|sr<|?_
    obtain ⟨r_93,er94,hc1⟩:=ob hc1
    refine y8 (.agg [(.int .i64 r_89.Id),(.own 2 0 r_89.Cells.length)]) rfl nle rfl<|y8 (.agg [(.int .i64 r_91.Id),(.own 3 0 r_91.Cells.length)]) rfl nle rfl<|a0b (a1t (c1k _ _ _ er94) rfl (.cons (.agg (.cons (.refl _) (.cons (.of_eq (congrArg (AV.lst _) (tko (enc:=(o8 3 o5)) r_89.Cells))) .nil))) (.cons (.agg (.cons (.refl _) (.cons (.of_eq (congrArg (AV.lst _) (tko (enc:=(o8 3 o5)) r_91.Cells))) .nil))) .nil)) rfl)<|y8 (.bool (!r_93)) rfl trivial rfl<|dk<|?_
    rcases oi hc1 with ⟨c95,hc1⟩ | ⟨c95,hc1⟩
    ·refine y5 rfl c95<|a0y<|?_
     obtain ⟨g96,hc1⟩:=og hc1
     refine l7 (.own 0 0 out_66.length) rfl<|l7 (.int .i64 table_1) rfl<|l7 (.int .i64 x_87) rfl<|y8 (.agg [(.int .i64 r_89.Id),(.own 2 0 r_89.Cells.length)]) rfl nle rfl<|y8 (.agg [(.int .i64 r_91.Id),(.own 3 0 r_91.Cells.length)]) rfl nle rfl<|y8 (.agg [(.int .i64 table_1),(.int .i64 x_87),(.int .i64 r_89.Id),(.own 2 0 r_89.Cells.length),(.int .i64 r_91.Id),(.own 3 0 r_91.Cells.length)]) rfl ⟨⟨rfl,nle,trivial⟩,⟨⟨rfl,nle,trivial⟩,⟨⟨rfl,nle,trivial⟩,⟨⟨rfl,nle,trivial⟩,trivial⟩⟩⟩⟩ rfl<|?_;refine a0b (a3t (j:=6) (as':=[(o7 (⟨table_1,x_87,r_89,r_91⟩:a0c))]) rfl (fun _ => by decide) ⟨rfl,trivial⟩ (.cons (.agg (.cons (.refl _) (.cons (.refl _) (.cons (.refl _) (.cons (.of_eq (congrArg (AV.lst _) (tk (enc:=(o8 3 o5)) r_89.Cells))) (.cons (.refl _) (.cons (.of_eq (congrArg (AV.lst _) (tk (enc:=(o8 3 o5)) r_91.Cells))) .nil))))))) .nil) rfl rfl rfl) ?_
     refine a0b (a4m (j:=7) (L:=((out_66 ++ [(⟨table_1,x_87,r_89,r_91⟩:a0c)]).map o7)) (len:=(out_66 ++ [(⟨table_1,x_87,r_89,r_91⟩:a0c)]).length) rfl true rfl rfl (fun h => Bool.noConfusion h) (fun _ _ h => (b5x (show AV.own _ _ _ = AV.lst _ _ from h)).elim) (by decide) (c7d (enc:=o7) out_66 [(⟨table_1,x_87,r_89,r_91⟩:a0c)] _ (by rfl)) (by simp <;> omega) g96 rfl rfl) ?_
     refine l7 (.own 7 0 ((out_66 ++ [(⟨table_1,x_87,r_89,r_91⟩:a0c)]).length)) rfl<|a0m<|a2s<|a0g<|a0y<|y8 (.int .i64 (w64 ((s37_65:Int) + 1))) rfl rfl rfl<|l7 (.int .i64 (w64 ((s37_65:Int) + 1))) rfl<|a0m<|?_;exact a1e ⟨((s37_65 + 1),out_66 ++ [(⟨table_1,x_87,r_89,r_91⟩:a0c)]),hc1⟩ (mul hlt81) ⟨[],[7,1],_,_,rfl,rfl,⟨.refl _,⟨.refl _,⟨.refl _,⟨.refl _,⟨.refl _,⟨.refl _,⟨.of_eq (congrArg (AV.int _) (a1j hlt81 hl38)),trivial⟩⟩⟩⟩⟩⟩⟩,(.refl _)⟩
    ·refine y7 rfl (bf c95)<|a0e<|a2s<|a0g<|a0y<|y8 (.int .i64 (w64 ((s37_65:Int) + 1))) rfl rfl rfl<|l7 (.int .i64 (w64 ((s37_65:Int) + 1))) rfl<|a0m<|?_;exact a1e ⟨((s37_65 + 1),out_66),hc1⟩ (mul hlt81) ⟨[],[0,1],_,_,rfl,rfl,⟨.refl _,⟨.refl _,⟨.refl _,⟨.refl _,⟨.refl _,⟨.refl _,⟨.of_eq (congrArg (AV.int _) (a1j hlt81 hl38)),trivial⟩⟩⟩⟩⟩⟩⟩,(.refl _)⟩
  ·refine sr<|l7 (.own 0 0 out_79.length) rfl<|l7 (.own 0 0 out_79.length) rfl<|dk<|a0k<|?_;obtain rfl:=os hf;exact a4v ⟨trivial,trivial⟩ rfl (by decide) (.of_eq (congrArg (AV.lst _) (tk (enc:=o7) out_79)))

/- impl.DiffStores -/
def c32:a0r :=
 (.seq (.reg (tq 2 (.box 2 (.t 0)) (tq 3 (.box 2 (.t 1)) (tm 4 (.c .nil) (tm 5 (.c (.int .i64 0)) .done)))))
 (.seq (.seq (.reg (tq 9 (.faddr 0 (.t 2)) (tq 10 (.load 1 false (.t 9)) (tq 11 (.len (.t 10)) (tq 12 (.faddr 0 (.t 3)) (tq 13 (.load 1 false (.t 12)) (tq 14 (.len (.t 13)) (tq 15 (.bin .neq (.t 11) (.t 14)) .done))))))))
 (.cond (.t 15) (.seq (.reg (tm 4 (.c .nil) (tm 5 (.c (.int .i64 1)) .done)))
 .ret)
 .skip))
 (.seq (.reg (tm 6 (.c (.fn 69 [])) .done))
 (.seq (.seq (.reg (tq 16 (.faddr 0 (.t 2)) (tq 17 (.load 1 false (.t 16)) (tm 18 (.t 6) (tq 19 (.call 70 [(.t 17),(.t 18)]) (tm 20 (.t 19) (tg 21 20 false (.faddr 0 (.t 3)) (tg 22 20 false (.load 1 false (.t 21)) (tg 23 20 false (.mov (.t 6)) (tg 24 20 false (.call 70 [(.t 22),(.t 23)]) (tq 25 (.pick (.t 20) (.c (.bool true)) (.t 24)) .done)))))))))))
 (.cut (.cond (.t 25) (.seq (.reg (tm 4 (.c .nil) (tm 5 (.c (.int .i64 1)) .done)))
 .ret)
 .skip)))
 (.seq (.reg (tq 26 (.bslice 6 []) (tm 7 (.t 26) .done)))
 (.seq (.seq (.reg (tq 27 (.faddr 0 (.t 2)) (tq 28 (.load 1 false (.t 27)) (tq 29 (.len (.t 28)) (tm 30 (.c (.int .i64 0)) .done)))))
 (.block 0 (.loop (.seq (.reg (tq 31 (.bin .lss (.t 30) (.t 29)) .done))
 (.seq (.cond (.t 31) .skip
 (.exit 0))
 (.seq (.block 1 (.seq (.reg (tm 32 (.t 30) (tm 8 (.t 32) .done)))
 (.reg (tm 33 (.t 7) (tm 34 (.t 8) (tq 35 (.faddr 0 (.t 2)) (tq 36 (.load 1 false (.t 35)) (tm 37 (.t 8) (tq 38 (.iaddr 1 (.t 36) (.t 37)) (tq 39 (.load 1 false (.t 38)) (tq 40 (.faddr 0 (.t 3)) (tq 41 (.load 1 false (.t 40)) (tm 42 (.t 8) (tq 43 (.iaddr 1 (.t 41) (.t 42)) (tq 44 (.load 1 false (.t 43)) (.l ⟨(some 45),none,.call 71 [(.t 34),(.t 39),(.t 44)]⟩ []
 (.l ⟨(some 46),none,.append 6 80 (.t 33) (.t 45)⟩ []
 (.l ⟨(some 7),none,.mov (.t 46)⟩ []
 .done .non) .non) .non))))))))))))))))
 (.reg (tq 47 (.bin .add (.t 30) (.c (.int .i64 1))) (tm 30 (.t 47) .done)))))))))
 (.cut (.seq (.reg (tm 48 (.t 7) (tm 4 (.t 48) (tm 5 (.c (.int .i64 0)) .done))))
 .ret))))))))
theorem e0i:a1p Try.prog Try.f32 = some (c32.erase,[.mov (.t 4),.mov (.t 5)],49):=by kernel_rfl
def a2o (b_2:a1d):List (List x9) → Nat → (List a0c) → Option (List a0c)
  | [],s30_38,out_39 =>
    some out_39
  | x_56 :: xs,s30_38,out_39 =>
    (idx b_2.Tables (s30_38:Int)).bind fun x_57 =>
    (a8h (s30_38:Int) x_56 x_57).bind fun r_59 =>
    if (out_39 ++ r_59).length ≤ 2 ^ 30 then
    a2o b_2 xs (s30_38 + 1) (out_39 ++ r_59)
    else none

def a6d (a_1:a1d) (b_2:a1d):Option ((List a0c) × Int) :=
    if ((a_1.Tables.length:Int) != (b_2.Tables.length:Int)) then
    some ([],1)
    else
    (((a1g a_1.Tables a2y).bind fun r_13 =>
    if r_13 then
    some true
    else
    (a1g b_2.Tables a2y).bind fun r_16 =>
    some r_16:Option Bool)).bind fun s25_11 =>
    if s25_11 then
    some ([],1)
    else
    (a2o b_2 a_1.Tables 0 []).bind fun out_48 =>
    some (out_48,0)
theorem b1r (a_1:a1d) (b_2:a1d) (r:((List a0c) × Int)) (hf:a6d a_1 b_2 = some r):a0d Try.prog 32 .fresh [(a1r a_1),(a1r b_2)] (.tup [(.lst 6 (r.1.map o7)),(.int .i64 r.2)]):=by
 refine a0d.of_awp mixed Try.func32 e0i nle ?_;rw [a0t];unfold a6d at hf;unfold c32;refine (show awp Try.prog true 0 _ (ofL [(0,(a1r a_1)),(1,(a1r b_2))]) [] _ from ?_);refine sr<|a0b (a2t (j:=0) (c:=(.agg [(.lst 1 (a_1.Tables.map (o8 2 l9))),(.int .i64 a_1.Next)])) rfl trivial rfl rfl)<|a0b (a2t (j:=1) (c:=(.agg [(.lst 1 (b_2.Tables.map (o8 2 l9))),(.int .i64 b_2.Next)])) rfl trivial rfl rfl)<|l7 .nil rfl<|l7 (.int .i64 0) rfl<|dk<|o6<|sr<|y8 (.ptr 0 0 0) rfl trivial rfl<|y8 (.lst 1 (a_1.Tables.map (o8 2 l9))) rfl nle rfl<|a0o (a1c (enc:=(o8 2 l9)) rfl) fun hl3 => ?_
 refine y8 (.ptr 1 0 0) rfl trivial rfl<|y8 (.lst 1 (b_2.Tables.map (o8 2 l9))) rfl nle rfl<|a0o (a1c (enc:=(o8 2 l9)) rfl) fun hl4 => y8 (.bool ((a_1.Tables.length:Int) != (b_2.Tables.length:Int))) rfl rfl rfl<|dk<|?_
 rcases oi hf with ⟨c5,hf⟩ | ⟨c5,hf⟩
 ·refine y5 rfl c5<|sr<|l7 .nil rfl<|l7 (.int .i64 1) rfl<|dk<|a0k<|?_;obtain rfl:=os hf;exact a4v ⟨trivial,⟨trivial,trivial⟩⟩ rfl (by decide) (.tup (.cons (.nil _) (.cons (.refl _) .nil)))
 ·refine y7 rfl (bf c5)<|a0e<|a0g<|sr<|l7 (.fn 69 []) rfl<|dk<|o6<|o6<|?_
  obtain ⟨s25_11,hb1,hf⟩:=ob hf
  refine a2e ([(2,(.ptr 0 0 0)),(3,(.ptr 1 0 0)),(25,(.bool s25_11))],[.box 2 (.agg [(.lst 1 (a_1.Tables.map (o8 2 l9))),(.int .i64 a_1.Next)]),.box 2 (.agg [(.lst 1 (b_2.Tables.map (o8 2 l9))),(.int .i64 b_2.Next)])]) ?_ ?_
  ·refine a0y ?_
   obtain ⟨r_13,er14,hb1⟩:=ob hb1
   rcases oi hb1 with ⟨c15,hb1⟩ | ⟨c15,hb1⟩
   ·refine y8 (.ptr 0 0 0) rfl trivial rfl<|y8 (.lst 1 (a_1.Tables.map (o8 2 l9))) rfl nle rfl<|l7 (.fn 69 []) rfl<|?_;refine a0b (a1t (a2v _ _ _ er14 69 [] (by kernel_rfl) (fun _ _ => rfl) (fun _ => rfl) (fun a0 r h => a8c a0 r h)) rfl (.refl _) rfl) ?_;refine l7 (.bool r_13) rfl<|a8u (s:=20) (b:=true) rfl c15<|a1m rfl rfl<|a1m rfl rfl<|a1m rfl rfl<|a1m rfl rfl<|y8 (.bool true) rfl trivial rfl<|a0m<|?_;obtain rfl:=os hb1;exact ⟨[],[0,1],_,_,rfl,rfl,⟨.refl _,⟨.refl _,⟨.refl _,trivial⟩⟩⟩,(.refl _)⟩
   ·obtain ⟨r_16,er17,hb1⟩:=ob hb1
    refine y8 (.ptr 0 0 0) rfl trivial rfl<|y8 (.lst 1 (a_1.Tables.map (o8 2 l9))) rfl nle rfl<|l7 (.fn 69 []) rfl<|?_;refine a0b (a1t (a2v _ _ _ er14 69 [] (by kernel_rfl) (fun _ _ => rfl) (fun _ => rfl) (fun a0 r h => a8c a0 r h)) rfl (.refl _) rfl) ?_;refine l7 (.bool r_13) rfl<|a8u (s:=20) (b:=false) rfl (bf c15)<|s_on rfl<|y8 (.ptr 1 0 0) rfl trivial rfl<|s_on rfl<|y8 (.lst 1 (b_2.Tables.map (o8 2 l9))) rfl nle rfl<|s_on rfl<|l7 (.fn 69 []) rfl<|s_on rfl<|?_;refine a0b (a1t (a2v _ _ _ er17 69 [] (by kernel_rfl) (fun _ _ => rfl) (fun _ => rfl) (fun a0 r h => a8c a0 r h)) rfl (.refl _) rfl) ?_
    refine y8 (.bool r_16) rfl trivial rfl<|a0m<|?_;obtain rfl:=os hb1;exact ⟨[],[0,1],_,_,rfl,rfl,⟨.refl _,⟨.refl _,⟨.refl _,trivial⟩⟩⟩,(.refl _)⟩
  ·rcases oi hf with ⟨c18,hf⟩ | ⟨c18,hf⟩
   ·refine y5 rfl c18<|sr<|l7 .nil rfl<|l7 (.int .i64 1) rfl<|dk<|a0k<|?_;obtain rfl:=os hf;exact a4v ⟨trivial,⟨trivial,trivial⟩⟩ rfl (by decide) (.tup (.cons (.nil _) (.cons (.refl _) .nil)))
   ·refine y7 rfl (bf c18)<|a0e<|a0g<|sr<|?_;refine a0b (a3t (j:=2) (as':=[]) rfl (fun _ => by decide) trivial (.refl _) rfl rfl rfl) ?_;refine l7 (.own 2 0 0) rfl<|dk<|o6<|sr<|y8 (.ptr 0 0 0) rfl trivial rfl<|y8 (.lst 1 (a_1.Tables.map (o8 2 l9))) rfl nle rfl<|a0o (a1c (enc:=(o8 2 l9)) rfl) fun hl19 => l7 (.int .i64 0) rfl<|dk<|?_
    obtain ⟨out_48,hb1,hf⟩:=ob hf
    refine a2e ([(7,(.own 0 0 out_48.length))],[.row 6 (out_48.map o7)]) ?_ ?_
    ·refine a0z (X:={q:(Nat × (List a0c)) // a2o b_2 (a_1.Tables.drop q.1) q.1 q.2 = some out_48}) (fun q => ([(2,(.ptr 0 0 0)),(3,(.ptr 1 0 0)),(7,(.own 2 0 q.1.2.length)),(29,(.int .i64 (a_1.Tables.length:Int))),(30,(.int .i64 (q.1.1:Int)))],[.box 2 (.agg [(.lst 1 (a_1.Tables.map (o8 2 l9))),(.int .i64 a_1.Next)]),.box 2 (.agg [(.lst 1 (b_2.Tables.map (o8 2 l9))),(.int .i64 b_2.Next)]),.row 6 (q.1.2.map o7)])) (fun q => a_1.Tables.length - q.1.1) ⟨(0,[]),hb1⟩ ⟨[],[0,1,2],_,_,rfl,rfl,⟨.refl _,⟨.refl _,⟨.of_eq (congrArg (AV.own _ 0) (by simp)),⟨.refl _,⟨.refl _,trivial⟩⟩⟩⟩⟩,(.refl _)⟩ ?_
     rintro ⟨⟨s30_38,out_39⟩,hc1⟩
     have hc1:a2o b_2 (a_1.Tables.drop s30_38) s30_38 out_39 = some out_48:=hc1
     refine (show awp Try.prog true 0 _ (ofL [(2,(.ptr 0 0 0)),(3,(.ptr 1 0 0)),(7,(.own 2 0 out_39.length)),(29,(.int .i64 (a_1.Tables.length:Int))),(30,(.int .i64 (s30_38:Int)))]) [.box 2 (.agg [(.lst 1 (a_1.Tables.map (o8 2 l9))),(.int .i64 a_1.Next)]),.box 2 (.agg [(.lst 1 (b_2.Tables.map (o8 2 l9))),(.int .i64 b_2.Next)]),.row 6 (out_39.map o7)] _ from ?_)
     rcases a5c a_1.Tables s30_38 with ⟨hie52,hd55⟩ | ⟨hlt50,x_56,hx51,hd55⟩
     ·rw [hd55,a2o.eq_1] at hc1
      have hq54:=dlf hie52
      refine sr<|y8 (.bool (decide ((s30_38:Int) < (a_1.Tables.length:Int)))) rfl rfl rfl<|dk<|o6<|y7 rfl hq54<|a1y<|a1x<|a1i<|a1w<|?_;obtain rfl:=os hc1;exact ⟨[],[2],_,_,rfl,rfl,⟨.refl _,trivial⟩,(.refl _)⟩
     ·rw [hd55,a2o.eq_2] at hc1
      have hq54:=dlt hlt50
      refine sr<|y8 (.bool (decide ((s30_38:Int) < (a_1.Tables.length:Int)))) rfl rfl rfl<|dk<|o6<|y5 rfl hq54<|a0e<|a0g<|o6<|a3j<|sr<|l7 (.int .i64 (s30_38:Int)) rfl<|l7 (.int .i64 (s30_38:Int)) rfl<|dk<|a0y<|l7 (.own 2 0 out_39.length) rfl<|l7 (.int .i64 (s30_38:Int)) rfl<|y8 (.ptr 0 0 0) rfl trivial rfl<|y8 (.lst 1 (a_1.Tables.map (o8 2 l9))) rfl nle rfl<|l7 (.int .i64 (s30_38:Int)) rfl<|a0b (a1a (enc:=(o8 2 l9)) rfl rfl hx51)<|y8 (.lst 2 (x_56.map l9)) rfl ⟨rfl,rfl⟩ rfl<|y8 (.ptr 1 0 0) rfl trivial rfl<|y8 (.lst 1 (b_2.Tables.map (o8 2 l9))) rfl nle rfl<|?_
      refine l7 (.int .i64 (s30_38:Int)) rfl ?_
      obtain ⟨x_57,ex58,hc1⟩:=ob hc1
      refine a0b (a4w (enc:=(o8 2 l9)) rfl rfl (b0q ex58) (b0r ex58))<|y8 (.lst 2 (x_57.map l9)) rfl ⟨rfl,rfl⟩ rfl<|?_
      obtain ⟨r_59,er60,hc1⟩:=ob hc1
      refine a3i (a3f (v:=(.own 3 0 r_59.length)) (h':=[.row 6 (r_59.map o7)]) (b9g _ _ _ _ er60) rfl (.refl _) (by simp only [a1s,a1v,List.length_map,List.nil_append,List.append_nil,List.cons_append];rfl)) trivial trivial ?_
      obtain ⟨g61,hc1⟩:=og hc1
      refine a3i (a4m (j:=4) (L:=((out_39 ++ r_59).map o7)) (len:=(out_39 ++ r_59).length) rfl true rfl rfl (fun h => Bool.noConfusion h) (fun _ _ h => (b5x (show AV.own _ _ _ = AV.lst _ _ from h)).elim) (by decide) (apo (enc:=o7) out_39 r_59) (by simp <;> omega) g61 rfl rfl) trivial trivial ?_
      refine a3i (b0c (.own 4 0 ((out_39 ++ r_59).length)) rfl) b1w trivial<|a0m<|a2s<|a0g<|a0y<|y8 (.int .i64 (w64 ((s30_38:Int) + 1))) rfl rfl rfl<|l7 (.int .i64 (w64 ((s30_38:Int) + 1))) rfl<|a0m<|?_;exact a1e ⟨((s30_38 + 1),out_39 ++ r_59),hc1⟩ (mul hlt50) ⟨[],[0,1,4],_,_,rfl,rfl,⟨.refl _,⟨.refl _,⟨.refl _,⟨.refl _,⟨.of_eq (congrArg (AV.int _) (a1j hlt50 hl19)),trivial⟩⟩⟩⟩⟩,(.refl _)⟩
    ·refine sr<|l7 (.own 0 0 out_48.length) rfl<|l7 (.own 0 0 out_48.length) rfl<|l7 (.int .i64 0) rfl<|dk<|a0k<|?_;obtain rfl:=os hf;exact a4v ⟨trivial,⟨trivial,trivial⟩⟩ rfl (by decide) (.tup (.cons (.of_eq (congrArg (AV.lst _) (tk (enc:=o7) out_48))) (.cons (.refl _) .nil)))

/- laws.eqAtom -/
def d8p:a0r :=
 (.seq (.reg (tq 2 (.box 3 (.t 0)) (tq 3 (.box 3 (.t 1)) (tm 4 (.c (.bool false)) .done))))
 (.seq (.seq (.reg (tq 5 (.faddr 0 (.t 2)) (tq 6 (.load 1 false (.t 5)) (tq 7 (.faddr 0 (.t 3)) (tq 8 (.load 1 false (.t 7)) (tq 9 (.bin .neq (.t 6) (.t 8)) .done))))))
 (.cond (.t 9) (.seq (.reg (tm 4 (.c (.bool false)) .done))
 .ret)
 .skip))
 (.seq (.seq (.reg (tq 10 (.faddr 1 (.t 2)) (tq 11 (.load 1 false (.t 10)) (tq 12 (.faddr 1 (.t 3)) (tq 13 (.load 1 false (.t 12)) (tq 14 (.bin .neq (.t 11) (.t 13)) .done))))))
 (.cond (.t 14) (.seq (.reg (tm 4 (.c (.bool false)) .done))
 .ret)
 .skip))
 (.seq (.seq (.reg (tq 15 (.faddr 2 (.t 2)) (tq 16 (.load 1 false (.t 15)) (tq 17 (.faddr 2 (.t 3)) (tq 18 (.load 1 false (.t 17)) (tq 19 (.bin .neq (.t 16) (.t 18)) .done))))))
 (.cond (.t 19) (.seq (.reg (tm 4 (.c (.bool false)) .done))
 .ret)
 .skip))
 (.seq (.reg (tm 4 (.c (.bool true)) .done))
 .ret)))))
theorem d8q:a1p Try.prog Try.f118 = some (d8p.erase,[.mov (.t 4)],20):=by kernel_rfl
def b0h (a_1:y9) (b_2:y9):Option Bool :=
    if (a_1.Kind != b_2.Kind) then
    some false
    else
    if (a_1.N != b_2.N) then
    some false
    else
    if (!(a_1.T == b_2.T)) then
    some false
    else
    some true
theorem c2n (a_1:y9) (b_2:y9) (r:Bool) (hf:b0h a_1 b_2 = some r):a0d Try.prog 118 .flat [(o5 a_1),(o5 b_2)] (.bool r):=by
 refine a0d.of_awp mixed Try.func118 d8q nle ?_;rw [a0t];unfold b0h at hf;unfold d8p;refine (show awp Try.prog false 0 _ (ofL [(0,(o5 a_1)),(1,(o5 b_2))]) [] _ from ?_);refine sr<|a0b (a2t (j:=0) (c:=(.agg [(.int .i64 a_1.Kind),(.int .i64 a_1.N),(.str a_1.T)])) rfl trivial rfl rfl)<|a0b (a2t (j:=1) (c:=(.agg [(.int .i64 b_2.Kind),(.int .i64 b_2.N),(.str b_2.T)])) rfl trivial rfl rfl)<|l7 (.bool false) rfl<|dk<|o6<|sr<|y8 (.ptr 0 0 0) rfl trivial rfl<|y8 (.int .i64 a_1.Kind) rfl nle rfl<|y8 (.ptr 1 0 0) rfl trivial rfl<|y8 (.int .i64 b_2.Kind) rfl nle rfl<|y8 (.bool (a_1.Kind != b_2.Kind)) rfl rfl rfl<|?_
 refine dk<|?_
 rcases oi hf with ⟨c3,hf⟩ | ⟨c3,hf⟩
 ·refine y5 rfl c3<|sr<|l7 (.bool false) rfl<|dk<|a0k<|?_;obtain rfl:=os hf;exact a0l ⟨trivial,trivial⟩ rfl (.refl _)
 ·refine y7 rfl (bf c3)<|a0e<|a0g<|o6<|sr<|y8 (.ptr 0 0 1) rfl trivial rfl<|y8 (.int .i64 a_1.N) rfl nle rfl<|y8 (.ptr 1 0 1) rfl trivial rfl<|y8 (.int .i64 b_2.N) rfl nle rfl<|y8 (.bool (a_1.N != b_2.N)) rfl rfl rfl<|dk<|?_
  rcases oi hf with ⟨c4,hf⟩ | ⟨c4,hf⟩
  ·refine y5 rfl c4<|sr<|l7 (.bool false) rfl<|dk<|a0k<|?_;obtain rfl:=os hf;exact a0l ⟨trivial,trivial⟩ rfl (.refl _)
  ·refine y7 rfl (bf c4)<|a0e<|a0g<|o6<|sr<|y8 (.ptr 0 0 2) rfl trivial rfl<|y8 (.str a_1.T) rfl nle rfl<|y8 (.ptr 1 0 2) rfl trivial rfl<|y8 (.str b_2.T) rfl nle rfl<|y8 (.bool (!(a_1.T == b_2.T))) rfl trivial rfl<|dk<|?_
   rcases oi hf with ⟨c5,hf⟩ | ⟨c5,hf⟩
   ·refine y5 rfl c5<|sr<|l7 (.bool false) rfl<|dk<|a0k<|?_;obtain rfl:=os hf;exact a0l ⟨trivial,trivial⟩ rfl (.refl _)
   ·refine y7 rfl (bf c5)<|a0e<|a0g<|sr<|l7 (.bool true) rfl<|dk<|a0k<|?_;obtain rfl:=os hf;exact a0l ⟨trivial,trivial⟩ rfl (.refl _)

/- laws.eqAtomS -/
def d8r:a0r :=
 (.seq (.reg (tm 4 (.c (.bool false)) .done))
 (.seq (.seq (.reg (tm 6 (.t 0) (tq 7 (.len (.t 6)) (tm 8 (.t 1) (tq 9 (.len (.t 8)) (tq 10 (.bin .neq (.t 7) (.t 9)) .done))))))
 (.cond (.t 10) (.seq (.reg (tm 4 (.c (.bool false)) .done))
 .ret)
 .skip))
 (.seq (.seq (.reg (tm 5 (.c (.int .i64 0)) .done))
 (.block 0 (.loop (.seq (.seq (.reg (tm 11 (.t 5) (tm 12 (.t 0) (tq 13 (.len (.t 12)) (tq 14 (.bin .lss (.t 11) (.t 13)) .done)))))
 (.cond (.t 14) .skip
 (.exit 0)))
 (.seq (.block 1 (.seq (.reg (tm 17 (.t 0) (tm 18 (.t 5) (tq 19 (.iaddr 3 (.t 17) (.t 18)) (tq 20 (.load 3 true (.t 19)) (tm 21 (.t 1) (tm 22 (.t 5) (tq 23 (.iaddr 3 (.t 21) (.t 22)) (tq 24 (.load 3 true (.t 23)) (.l ⟨(some 25),none,.call 118 [(.t 20),(.t 24)]⟩ []
 (tq 26 (.not (.t 25)) .done) .non))))))))))
 (.cond (.t 26) (.seq (.reg (tm 4 (.c (.bool false)) .done))
 .ret)
 .skip)))
 (.reg (tm 15 (.t 5) (tq 16 (.bin .add (.t 15) (.c (.int .i64 1))) (tm 5 (.t 16) .done)))))))))
 (.cut (.seq (.reg (tm 4 (.c (.bool true)) .done))
 .ret)))))
theorem d8s:a1p Try.prog Try.f104 = some (d8r.erase,[.mov (.t 4)],27):=by kernel_rfl
def a4k (b_2:(List y9)):List y9 → Nat → Option (Fl Bool Unit)
  | [],i_25 =>
    some (.go ())
  | x_43 :: xs,i_25 =>
    (idx b_2 (i_25:Int)).bind fun x_46 =>
    (b0h x_43 x_46).bind fun r_48 =>
    if (!r_48) then
    some (.ret false)
    else
    a4k b_2 xs (i_25 + 1)

def a9m (a_1:(List y9)) (b_2:(List y9)):Option Bool :=
    if ((a_1.length:Int) != (b_2.length:Int)) then
    some false
    else
    (a4k b_2 a_1 0).bind fun q => (match q with
    | .ret r => some r
    | .go _ =>
    some true)
theorem c1l (a_1:(List y9)) (b_2:(List y9)) (r:Bool) (hf:a9m a_1 b_2 = some r):a0d Try.prog 104 .flat [(.lst 3 (a_1.map o5)),(.lst 3 (b_2.map o5))] (.bool r):=by
 refine a0d.of_awp mixed Try.func104 d8s nle ?_;rw [a0t];unfold a9m at hf;unfold d8r;refine (show awp Try.prog false 0 _ (ofL [(0,(.lst 3 (a_1.map o5))),(1,(.lst 3 (b_2.map o5)))]) [] _ from ?_);refine sr<|l7 (.bool false) rfl<|dk<|o6<|sr<|l7 (.lst 3 (a_1.map o5)) rfl<|a0o (a1c (enc:=o5) rfl) fun hl3 => l7 (.lst 3 (b_2.map o5)) rfl<|a0o (a1c (enc:=o5) rfl) fun hl4 => y8 (.bool ((a_1.length:Int) != (b_2.length:Int))) rfl rfl rfl<|dk<|?_
 rcases oi hf with ⟨c5,hf⟩ | ⟨c5,hf⟩
 ·refine y5 rfl c5<|sr<|l7 (.bool false) rfl<|dk<|a0k<|?_;obtain rfl:=os hf;exact a0l ⟨trivial,trivial⟩ rfl (.refl _)
 ·refine y7 rfl (bf c5)<|a0e<|a0g<|o6<|sr<|l7 (.int .i64 0) rfl<|dk<|?_
  obtain ⟨p36,hb1,hf⟩:=ob hf
  refine a4a (X:={q:Unit // p36 = .go q}) (fun q => ([],[])) ?_ ?_
  ·refine a0z (X:={q:Nat // a4k b_2 (a_1.drop q) q = some p36}) (fun q => ([(0,(.lst 3 (a_1.map o5))),(1,(.lst 3 (b_2.map o5))),(5,(.int .i64 (q.1:Int)))],[])) (fun q => a_1.length - q.1) ⟨0,hb1⟩ ⟨[],[],_,_,rfl,rfl,⟨.refl _,⟨.refl _,⟨.refl _,trivial⟩⟩⟩,(.refl _)⟩ ?_
   rintro ⟨i_25,hc1⟩
   have hc1:a4k b_2 (a_1.drop i_25) i_25 = some p36:=hc1
   refine (show awp Try.prog false 0 _ (ofL [(0,(.lst 3 (a_1.map o5))),(1,(.lst 3 (b_2.map o5))),(5,(.int .i64 (i_25:Int)))]) [] _ from ?_)
   rcases a5c a_1 i_25 with ⟨hie39,hd42⟩ | ⟨hlt37,x_43,hx38,hd42⟩
   ·rw [hd42,a4k.eq_1] at hc1
    have hq41:=dlf hie39
    refine o6<|sr<|l7 (.int .i64 (i_25:Int)) rfl<|l7 (.lst 3 (a_1.map o5)) rfl<|a0o (a1c (enc:=o5) rfl) fun hl44 => y8 (.bool (decide ((i_25:Int) < (a_1.length:Int)))) rfl rfl rfl<|dk<|y7 rfl hq41<|a1y<|a1x<|a1i<|a1w<|?_;obtain rfl:=os hc1;exact a5z ⟨_,rfl⟩ ⟨[],[],_,_,rfl,rfl,trivial,(.refl _)⟩
   ·rw [hd42,a4k.eq_2] at hc1
    have hq41:=dlt hlt37
    refine o6<|sr<|l7 (.int .i64 (i_25:Int)) rfl<|l7 (.lst 3 (a_1.map o5)) rfl<|a0o (a1c (enc:=o5) rfl) fun hl45 => y8 (.bool (decide ((i_25:Int) < (a_1.length:Int)))) rfl rfl rfl<|dk<|y5 rfl hq41<|a0e<|a0g<|o6<|a3j<|sr<|?_
    obtain ⟨x_46,ex47,hc1⟩:=ob hc1
    obtain ⟨r_48,er49,hc1⟩:=ob hc1
    refine l7 (.lst 3 (a_1.map o5)) rfl<|l7 (.int .i64 (i_25:Int)) rfl<|a0b (a1a (enc:=o5) rfl rfl hx38)<|y8 (o5 x_43) rfl nle rfl<|l7 (.lst 3 (b_2.map o5)) rfl<|l7 (.int .i64 (i_25:Int)) rfl<|a0b (a4w (enc:=o5) rfl rfl (b0q ex47) (b0r ex47))<|y8 (o5 x_46) rfl nle rfl<|a3i (a1t (c2n _ _ _ er49) rfl (.refl _) rfl) b1w trivial<|y8 (.bool (!r_48)) rfl trivial rfl<|dk<|?_
    rcases oi hc1 with ⟨c50,hc1⟩ | ⟨c50,hc1⟩
    ·refine y5 rfl c50<|sr<|l7 (.bool false) rfl<|dk<|a0k<|?_;obtain rfl:=os hc1;obtain rfl:=os hf;exact a0l ⟨trivial,trivial⟩ rfl (.refl _)
    ·refine y7 rfl (bf c50)<|a0e<|a2s<|a0g<|a0y<|l7 (.int .i64 (i_25:Int)) rfl<|y8 (.int .i64 (w64 ((i_25:Int) + 1))) rfl rfl rfl<|l7 (.int .i64 (w64 ((i_25:Int) + 1))) rfl<|a0m<|?_;exact a1e ⟨(i_25 + 1),hc1⟩ (mul hlt37) ⟨[],[],_,_,rfl,rfl,⟨.refl _,⟨.refl _,⟨.of_eq (congrArg (AV.int _) (a1j hlt37 hl45)),trivial⟩⟩⟩,(.refl _)⟩
  ·rintro ⟨_,rfl⟩
   refine sr<|l7 (.bool true) rfl<|dk<|a0k<|?_;obtain rfl:=os hf;exact a0l ⟨trivial,trivial⟩ rfl (.refl _)

/- laws.eqAtomSS -/
def c82:a0r :=
 (.seq (.reg (tm 4 (.c (.bool false)) .done))
 (.seq (.seq (.reg (tm 6 (.t 0) (tq 7 (.len (.t 6)) (tm 8 (.t 1) (tq 9 (.len (.t 8)) (tq 10 (.bin .neq (.t 7) (.t 9)) .done))))))
 (.cond (.t 10) (.seq (.reg (tm 4 (.c (.bool false)) .done))
 .ret)
 .skip))
 (.seq (.seq (.reg (tm 5 (.c (.int .i64 0)) .done))
 (.block 0 (.loop (.seq (.seq (.reg (tm 11 (.t 5) (tm 12 (.t 0) (tq 13 (.len (.t 12)) (tq 14 (.bin .lss (.t 11) (.t 13)) .done)))))
 (.cond (.t 14) .skip
 (.exit 0)))
 (.seq (.block 1 (.seq (.reg (tm 17 (.t 0) (tm 18 (.t 5) (tq 19 (.iaddr 1 (.t 17) (.t 18)) (tq 20 (.load 1 false (.t 19)) (tm 21 (.t 1) (tm 22 (.t 5) (tq 23 (.iaddr 1 (.t 21) (.t 22)) (tq 24 (.load 1 false (.t 23)) (.l ⟨(some 25),none,.call 104 [(.t 20),(.t 24)]⟩ []
 (tq 26 (.not (.t 25)) .done) .non))))))))))
 (.cond (.t 26) (.seq (.reg (tm 4 (.c (.bool false)) .done))
 .ret)
 .skip)))
 (.reg (tm 15 (.t 5) (tq 16 (.bin .add (.t 15) (.c (.int .i64 1))) (tm 5 (.t 16) .done)))))))))
 (.cut (.seq (.reg (tm 4 (.c (.bool true)) .done))
 .ret)))))
theorem e0j:a1p Try.prog Try.f82 = some (c82.erase,[.mov (.t 4)],27):=by kernel_rfl
def a3q (b_2:(List (List y9))):List (List y9) → Nat → Option (Fl Bool Unit)
  | [],i_25 =>
    some (.go ())
  | x_43 :: xs,i_25 =>
    (idx b_2 (i_25:Int)).bind fun x_46 =>
    (a9m x_43 x_46).bind fun r_48 =>
    if (!r_48) then
    some (.ret false)
    else
    a3q b_2 xs (i_25 + 1)

def a8i (a_1:(List (List y9))) (b_2:(List (List y9))):Option Bool :=
    if ((a_1.length:Int) != (b_2.length:Int)) then
    some false
    else
    (a3q b_2 a_1 0).bind fun q => (match q with
    | .ret r => some r
    | .go _ =>
    some true)
theorem b9h (a_1:(List (List y9))) (b_2:(List (List y9))) (r:Bool) (hf:a8i a_1 b_2 = some r):a0d Try.prog 82 .flat [(.lst 1 (a_1.map (o8 3 o5))),(.lst 1 (b_2.map (o8 3 o5)))] (.bool r):=by
 refine a0d.of_awp mixed Try.func82 e0j nle ?_;rw [a0t];unfold a8i at hf;unfold c82;refine (show awp Try.prog false 0 _ (ofL [(0,(.lst 1 (a_1.map (o8 3 o5)))),(1,(.lst 1 (b_2.map (o8 3 o5))))]) [] _ from ?_);refine sr<|l7 (.bool false) rfl<|dk<|o6<|sr<|l7 (.lst 1 (a_1.map (o8 3 o5))) rfl<|a0o (a1c (enc:=(o8 3 o5)) rfl) fun hl3 => l7 (.lst 1 (b_2.map (o8 3 o5))) rfl<|a0o (a1c (enc:=(o8 3 o5)) rfl) fun hl4 => y8 (.bool ((a_1.length:Int) != (b_2.length:Int))) rfl rfl rfl<|dk<|?_
 rcases oi hf with ⟨c5,hf⟩ | ⟨c5,hf⟩
 ·refine y5 rfl c5<|sr<|l7 (.bool false) rfl<|dk<|a0k<|?_;obtain rfl:=os hf;exact a0l ⟨trivial,trivial⟩ rfl (.refl _)
 ·refine y7 rfl (bf c5)<|a0e<|a0g<|o6<|sr<|l7 (.int .i64 0) rfl<|dk<|?_
  obtain ⟨p36,hb1,hf⟩:=ob hf
  refine a4a (X:={q:Unit // p36 = .go q}) (fun q => ([],[])) ?_ ?_
  ·refine a0z (X:={q:Nat // a3q b_2 (a_1.drop q) q = some p36}) (fun q => ([(0,(.lst 1 (a_1.map (o8 3 o5)))),(1,(.lst 1 (b_2.map (o8 3 o5)))),(5,(.int .i64 (q.1:Int)))],[])) (fun q => a_1.length - q.1) ⟨0,hb1⟩ ⟨[],[],_,_,rfl,rfl,⟨.refl _,⟨.refl _,⟨.refl _,trivial⟩⟩⟩,(.refl _)⟩ ?_
   rintro ⟨i_25,hc1⟩
   have hc1:a3q b_2 (a_1.drop i_25) i_25 = some p36:=hc1
   refine (show awp Try.prog false 0 _ (ofL [(0,(.lst 1 (a_1.map (o8 3 o5)))),(1,(.lst 1 (b_2.map (o8 3 o5)))),(5,(.int .i64 (i_25:Int)))]) [] _ from ?_)
   rcases a5c a_1 i_25 with ⟨hie39,hd42⟩ | ⟨hlt37,x_43,hx38,hd42⟩
   ·rw [hd42,a3q.eq_1] at hc1
    have hq41:=dlf hie39
    refine o6<|sr<|l7 (.int .i64 (i_25:Int)) rfl<|l7 (.lst 1 (a_1.map (o8 3 o5))) rfl<|a0o (a1c (enc:=(o8 3 o5)) rfl) fun hl44 => y8 (.bool (decide ((i_25:Int) < (a_1.length:Int)))) rfl rfl rfl<|dk<|y7 rfl hq41<|a1y<|a1x<|a1i<|a1w<|?_;obtain rfl:=os hc1;exact a5z ⟨_,rfl⟩ ⟨[],[],_,_,rfl,rfl,trivial,(.refl _)⟩
   ·rw [hd42,a3q.eq_2] at hc1
    have hq41:=dlt hlt37
    refine o6<|sr<|l7 (.int .i64 (i_25:Int)) rfl<|l7 (.lst 1 (a_1.map (o8 3 o5))) rfl<|a0o (a1c (enc:=(o8 3 o5)) rfl) fun hl45 => y8 (.bool (decide ((i_25:Int) < (a_1.length:Int)))) rfl rfl rfl<|dk<|y5 rfl hq41<|a0e<|a0g<|o6<|a3j<|sr<|?_
    obtain ⟨x_46,ex47,hc1⟩:=ob hc1
    obtain ⟨r_48,er49,hc1⟩:=ob hc1
    refine l7 (.lst 1 (a_1.map (o8 3 o5))) rfl<|l7 (.int .i64 (i_25:Int)) rfl<|a0b (a1a (enc:=(o8 3 o5)) rfl rfl hx38)<|y8 (.lst 3 (x_43.map o5)) rfl ⟨rfl,rfl⟩ rfl<|l7 (.lst 1 (b_2.map (o8 3 o5))) rfl<|l7 (.int .i64 (i_25:Int)) rfl<|a0b (a4w (enc:=(o8 3 o5)) rfl rfl (b0q ex47) (b0r ex47))<|y8 (.lst 3 (x_46.map o5)) rfl ⟨rfl,rfl⟩ rfl<|a3i (a1t (c1l _ _ _ er49) rfl (.refl _) rfl) b1w trivial<|y8 (.bool (!r_48)) rfl trivial rfl<|dk<|?_
    rcases oi hc1 with ⟨c50,hc1⟩ | ⟨c50,hc1⟩
    ·refine y5 rfl c50<|sr<|l7 (.bool false) rfl<|dk<|a0k<|?_;obtain rfl:=os hc1;obtain rfl:=os hf;exact a0l ⟨trivial,trivial⟩ rfl (.refl _)
    ·refine y7 rfl (bf c50)<|a0e<|a2s<|a0g<|a0y<|l7 (.int .i64 (i_25:Int)) rfl<|y8 (.int .i64 (w64 ((i_25:Int) + 1))) rfl rfl rfl<|l7 (.int .i64 (w64 ((i_25:Int) + 1))) rfl<|a0m<|?_;exact a1e ⟨(i_25 + 1),hc1⟩ (mul hlt37) ⟨[],[],_,_,rfl,rfl,⟨.refl _,⟨.refl _,⟨.of_eq (congrArg (AV.int _) (a1j hlt37 hl45)),trivial⟩⟩⟩,(.refl _)⟩
  ·rintro ⟨_,rfl⟩
   refine sr<|l7 (.bool true) rfl<|dk<|a0k<|?_;obtain rfl:=os hf;exact a0l ⟨trivial,trivial⟩ rfl (.refl _)

/- laws.eqRow -/
def c51:a0r :=
 (.seq (.reg (tq 2 (.box 2 (.t 0)) (tq 3 (.box 2 (.t 1)) (tm 4 (.c (.bool false)) .done))))
 (.seq (.seq (.reg (tq 5 (.faddr 0 (.t 2)) (tq 6 (.load 1 false (.t 5)) (tq 7 (.faddr 0 (.t 3)) (tq 8 (.load 1 false (.t 7)) (tq 9 (.bin .neq (.t 6) (.t 8)) .done))))))
 (.cond (.t 9) (.seq (.reg (tm 4 (.c (.bool false)) .done))
 .ret)
 .skip))
 (.seq (.seq (.reg (tq 10 (.faddr 1 (.t 2)) (tq 11 (.load 1 false (.t 10)) (tq 12 (.faddr 1 (.t 3)) (tq 13 (.load 1 false (.t 12)) (tq 14 (.call 82 [(.t 11),(.t 13)]) (tq 15 (.not (.t 14)) .done)))))))
 (.cond (.t 15) (.seq (.reg (tm 4 (.c (.bool false)) .done))
 .ret)
 .skip))
 (.seq (.reg (tm 4 (.c (.bool true)) .done))
 .ret))))
theorem e0k:a1p Try.prog Try.f51 = some (c51.erase,[.mov (.t 4)],16):=by kernel_rfl
def a8r (a_1:x9) (b_2:x9):Option Bool :=
    if (a_1.Id != b_2.Id) then
    some false
    else
    (a8i a_1.Cells b_2.Cells).bind fun r_4 =>
    if (!r_4) then
    some false
    else
    some true
theorem b2r (a_1:x9) (b_2:x9) (r:Bool) (hf:a8r a_1 b_2 = some r):a0d Try.prog 51 .flat [(l9 a_1),(l9 b_2)] (.bool r):=by
 refine a0d.of_awp mixed Try.func51 e0k nle ?_;rw [a0t];unfold a8r at hf;unfold c51;refine (show awp Try.prog false 0 _ (ofL [(0,(l9 a_1)),(1,(l9 b_2))]) [] _ from ?_);refine sr<|a0b (a2t (j:=0) (c:=(.agg [(.int .i64 a_1.Id),(.lst 1 (a_1.Cells.map (o8 3 o5)))])) rfl trivial rfl rfl)<|a0b (a2t (j:=1) (c:=(.agg [(.int .i64 b_2.Id),(.lst 1 (b_2.Cells.map (o8 3 o5)))])) rfl trivial rfl rfl)<|l7 (.bool false) rfl<|dk<|o6<|sr<|y8 (.ptr 0 0 0) rfl trivial rfl<|y8 (.int .i64 a_1.Id) rfl nle rfl<|y8 (.ptr 1 0 0) rfl trivial rfl<|y8 (.int .i64 b_2.Id) rfl nle rfl<|y8 (.bool (a_1.Id != b_2.Id)) rfl rfl rfl<|?_
 refine dk<|?_
 rcases oi hf with ⟨c3,hf⟩ | ⟨c3,hf⟩
 ·refine y5 rfl c3<|sr<|l7 (.bool false) rfl<|dk<|a0k<|?_;obtain rfl:=os hf;exact a0l ⟨trivial,trivial⟩ rfl (.refl _)
 ·refine y7 rfl (bf c3)<|a0e<|a0g<|o6<|sr<|?_
  obtain ⟨r_4,er5,hf⟩:=ob hf
  refine y8 (.ptr 0 0 1) rfl trivial rfl<|y8 (.lst 1 (a_1.Cells.map (o8 3 o5))) rfl nle rfl<|y8 (.ptr 1 0 1) rfl trivial rfl<|y8 (.lst 1 (b_2.Cells.map (o8 3 o5))) rfl nle rfl<|a0b (a1t (b9h _ _ _ er5) rfl (.refl _) rfl)<|y8 (.bool (!r_4)) rfl trivial rfl<|dk<|?_
  rcases oi hf with ⟨c6,hf⟩ | ⟨c6,hf⟩
  ·refine y5 rfl c6<|sr<|l7 (.bool false) rfl<|dk<|a0k<|?_;obtain rfl:=os hf;exact a0l ⟨trivial,trivial⟩ rfl (.refl _)
  ·refine y7 rfl (bf c6)<|a0e<|a0g<|sr<|l7 (.bool true) rfl<|dk<|a0k<|?_;obtain rfl:=os hf;exact a0l ⟨trivial,trivial⟩ rfl (.refl _)

/- laws.eqChange -/
def c64:a0r :=
 (.seq (.reg (tq 2 (.box 6 (.t 0)) (tq 3 (.box 6 (.t 1)) (tm 4 (.c (.bool false)) .done))))
 (.seq (.seq (.reg (tq 5 (.faddr 0 (.t 2)) (tq 6 (.load 1 false (.t 5)) (tq 7 (.faddr 0 (.t 3)) (tq 8 (.load 1 false (.t 7)) (tq 9 (.bin .neq (.t 6) (.t 8)) .done))))))
 (.cond (.t 9) (.seq (.reg (tm 4 (.c (.bool false)) .done))
 .ret)
 .skip))
 (.seq (.seq (.reg (tq 10 (.faddr 1 (.t 2)) (tq 11 (.load 1 false (.t 10)) (tq 12 (.faddr 1 (.t 3)) (tq 13 (.load 1 false (.t 12)) (tq 14 (.bin .neq (.t 11) (.t 13)) .done))))))
 (.cond (.t 14) (.seq (.reg (tm 4 (.c (.bool false)) .done))
 .ret)
 .skip))
 (.seq (.seq (.reg (tq 15 (.faddr 2 (.t 2)) (tq 16 (.load 2 true (.t 15)) (tq 17 (.faddr 2 (.t 3)) (tq 18 (.load 2 true (.t 17)) (tq 19 (.call 51 [(.t 16),(.t 18)]) (tq 20 (.not (.t 19)) .done)))))))
 (.cond (.t 20) (.seq (.reg (tm 4 (.c (.bool false)) .done))
 .ret)
 .skip))
 (.seq (.seq (.reg (tq 21 (.faddr 4 (.t 2)) (tq 22 (.load 2 true (.t 21)) (tq 23 (.faddr 4 (.t 3)) (tq 24 (.load 2 true (.t 23)) (tq 25 (.call 51 [(.t 22),(.t 24)]) (tq 26 (.not (.t 25)) .done)))))))
 (.cond (.t 26) (.seq (.reg (tm 4 (.c (.bool false)) .done))
 .ret)
 .skip))
 (.seq (.reg (tm 4 (.c (.bool true)) .done))
 .ret))))))
theorem e0l:a1p Try.prog Try.f64 = some (c64.erase,[.mov (.t 4)],27):=by kernel_rfl
def a8j (a_1:a0c) (b_2:a0c):Option Bool :=
    if (a_1.Table != b_2.Table) then
    some false
    else
    if (a_1.Id != b_2.Id) then
    some false
    else
    (a8r a_1.Old b_2.Old).bind fun r_5 =>
    if (!r_5) then
    some false
    else
    (a8r a_1.New b_2.New).bind fun r_8 =>
    if (!r_8) then
    some false
    else
    some true
theorem b9i (a_1:a0c) (b_2:a0c) (r:Bool) (hf:a8j a_1 b_2 = some r):a0d Try.prog 64 .flat [(o7 a_1),(o7 b_2)] (.bool r):=by
 refine a0d.of_awp mixed Try.func64 e0l nle ?_;rw [a0t];unfold a8j at hf;unfold c64;refine (show awp Try.prog false 0 _ (ofL [(0,(o7 a_1)),(1,(o7 b_2))]) [] _ from ?_);refine sr<|a0b (a2t (j:=0) (c:=(.agg [(.int .i64 a_1.Table),(.int .i64 a_1.Id),(.int .i64 a_1.Old.Id),(.lst 1 (a_1.Old.Cells.map (o8 3 o5))),(.int .i64 a_1.New.Id),(.lst 1 (a_1.New.Cells.map (o8 3 o5)))])) rfl trivial rfl rfl)<|a0b (a2t (j:=1) (c:=(.agg [(.int .i64 b_2.Table),(.int .i64 b_2.Id),(.int .i64 b_2.Old.Id),(.lst 1 (b_2.Old.Cells.map (o8 3 o5))),(.int .i64 b_2.New.Id),(.lst 1 (b_2.New.Cells.map (o8 3 o5)))])) rfl trivial rfl rfl)<|l7 (.bool false) rfl<|?_
 refine dk<|o6<|sr<|y8 (.ptr 0 0 0) rfl trivial rfl<|y8 (.int .i64 a_1.Table) rfl nle rfl<|y8 (.ptr 1 0 0) rfl trivial rfl<|y8 (.int .i64 b_2.Table) rfl nle rfl<|y8 (.bool (a_1.Table != b_2.Table)) rfl rfl rfl<|dk<|?_
 rcases oi hf with ⟨c3,hf⟩ | ⟨c3,hf⟩
 ·refine y5 rfl c3<|sr<|l7 (.bool false) rfl<|dk<|a0k<|?_;obtain rfl:=os hf;exact a0l ⟨trivial,trivial⟩ rfl (.refl _)
 ·refine y7 rfl (bf c3)<|a0e<|a0g<|o6<|sr<|y8 (.ptr 0 0 1) rfl trivial rfl<|y8 (.int .i64 a_1.Id) rfl nle rfl<|y8 (.ptr 1 0 1) rfl trivial rfl<|y8 (.int .i64 b_2.Id) rfl nle rfl<|y8 (.bool (a_1.Id != b_2.Id)) rfl rfl rfl<|dk<|?_
  rcases oi hf with ⟨c4,hf⟩ | ⟨c4,hf⟩
  ·refine y5 rfl c4<|sr<|l7 (.bool false) rfl<|dk<|a0k<|?_;obtain rfl:=os hf;exact a0l ⟨trivial,trivial⟩ rfl (.refl _)
  ·refine y7 rfl (bf c4)<|a0e<|a0g<|o6<|sr<|?_
   obtain ⟨r_5,er6,hf⟩:=ob hf
   refine y8 (.ptr 0 0 2) rfl trivial rfl<|y8 (.agg [(.int .i64 a_1.Old.Id),(.lst 1 (a_1.Old.Cells.map (o8 3 o5)))]) rfl nle rfl<|y8 (.ptr 1 0 2) rfl trivial rfl<|y8 (.agg [(.int .i64 b_2.Old.Id),(.lst 1 (b_2.Old.Cells.map (o8 3 o5)))]) rfl nle rfl<|a0b (a1t (b2r _ _ _ er6) rfl (.refl _) rfl)<|y8 (.bool (!r_5)) rfl trivial rfl<|dk<|?_
   rcases oi hf with ⟨c7,hf⟩ | ⟨c7,hf⟩
   ·refine y5 rfl c7<|sr<|l7 (.bool false) rfl<|dk<|a0k<|?_;obtain rfl:=os hf;exact a0l ⟨trivial,trivial⟩ rfl (.refl _)
   ·refine y7 rfl (bf c7)<|a0e<|a0g<|o6<|sr<|?_
    obtain ⟨r_8,er9,hf⟩:=ob hf
    refine y8 (.ptr 0 0 4) rfl trivial rfl<|y8 (.agg [(.int .i64 a_1.New.Id),(.lst 1 (a_1.New.Cells.map (o8 3 o5)))]) rfl nle rfl<|y8 (.ptr 1 0 4) rfl trivial rfl<|y8 (.agg [(.int .i64 b_2.New.Id),(.lst 1 (b_2.New.Cells.map (o8 3 o5)))]) rfl nle rfl<|a0b (a1t (b2r _ _ _ er9) rfl (.refl _) rfl)<|y8 (.bool (!r_8)) rfl trivial rfl<|dk<|?_
    rcases oi hf with ⟨c10,hf⟩ | ⟨c10,hf⟩
    ·refine y5 rfl c10<|sr<|l7 (.bool false) rfl<|dk<|a0k<|?_;obtain rfl:=os hf;exact a0l ⟨trivial,trivial⟩ rfl (.refl _)
    ·refine y7 rfl (bf c10)<|a0e<|a0g<|sr<|l7 (.bool true) rfl<|dk<|a0k<|?_;obtain rfl:=os hf;exact a0l ⟨trivial,trivial⟩ rfl (.refl _)

/- laws.eqChangeS -/
def c25:a0r :=
 (.seq (.reg (tm 4 (.c (.bool false)) .done))
 (.seq (.seq (.reg (tm 6 (.t 0) (tq 7 (.len (.t 6)) (tm 8 (.t 1) (tq 9 (.len (.t 8)) (tq 10 (.bin .neq (.t 7) (.t 9)) .done))))))
 (.cond (.t 10) (.seq (.reg (tm 4 (.c (.bool false)) .done))
 .ret)
 .skip))
 (.seq (.seq (.reg (tm 5 (.c (.int .i64 0)) .done))
 (.block 0 (.loop (.seq (.seq (.reg (tm 11 (.t 5) (tm 12 (.t 0) (tq 13 (.len (.t 12)) (tq 14 (.bin .lss (.t 11) (.t 13)) .done)))))
 (.cond (.t 14) .skip
 (.exit 0)))
 (.seq (.block 1 (.seq (.reg (tm 17 (.t 0) (tm 18 (.t 5) (tq 19 (.iaddr 6 (.t 17) (.t 18)) (tq 20 (.load 6 true (.t 19)) (tm 21 (.t 1) (tm 22 (.t 5) (tq 23 (.iaddr 6 (.t 21) (.t 22)) (tq 24 (.load 6 true (.t 23)) (.l ⟨(some 25),none,.call 64 [(.t 20),(.t 24)]⟩ []
 (tq 26 (.not (.t 25)) .done) .non))))))))))
 (.cond (.t 26) (.seq (.reg (tm 4 (.c (.bool false)) .done))
 .ret)
 .skip)))
 (.reg (tm 15 (.t 5) (tq 16 (.bin .add (.t 15) (.c (.int .i64 1))) (tm 5 (.t 16) .done)))))))))
 (.cut (.seq (.reg (tm 4 (.c (.bool true)) .done))
 .ret)))))
theorem e0m:a1p Try.prog Try.f25 = some (c25.erase,[.mov (.t 4)],27):=by kernel_rfl
def a3a (b_2:(List a0c)):List a0c → Nat → Option (Fl Bool Unit)
  | [],i_25 =>
    some (.go ())
  | x_43 :: xs,i_25 =>
    (idx b_2 (i_25:Int)).bind fun x_46 =>
    (a8j x_43 x_46).bind fun r_48 =>
    if (!r_48) then
    some (.ret false)
    else
    a3a b_2 xs (i_25 + 1)

def a5w (a_1:(List a0c)) (b_2:(List a0c)):Option Bool :=
    if ((a_1.length:Int) != (b_2.length:Int)) then
    some false
    else
    (a3a b_2 a_1 0).bind fun q => (match q with
    | .ret r => some r
    | .go _ =>
    some true)
theorem a6q (a_1:(List a0c)) (b_2:(List a0c)) (r:Bool) (hf:a5w a_1 b_2 = some r):a0d Try.prog 25 .flat [(.lst 6 (a_1.map o7)),(.lst 6 (b_2.map o7))] (.bool r):=by
 refine a0d.of_awp mixed Try.func25 e0m nle ?_;rw [a0t];unfold a5w at hf;unfold c25;refine (show awp Try.prog false 0 _ (ofL [(0,(.lst 6 (a_1.map o7))),(1,(.lst 6 (b_2.map o7)))]) [] _ from ?_);refine sr<|l7 (.bool false) rfl<|dk<|o6<|sr<|l7 (.lst 6 (a_1.map o7)) rfl<|a0o (a1c (enc:=o7) rfl) fun hl3 => l7 (.lst 6 (b_2.map o7)) rfl<|a0o (a1c (enc:=o7) rfl) fun hl4 => y8 (.bool ((a_1.length:Int) != (b_2.length:Int))) rfl rfl rfl<|dk<|?_
 rcases oi hf with ⟨c5,hf⟩ | ⟨c5,hf⟩
 ·refine y5 rfl c5<|sr<|l7 (.bool false) rfl<|dk<|a0k<|?_;obtain rfl:=os hf;exact a0l ⟨trivial,trivial⟩ rfl (.refl _)
 ·refine y7 rfl (bf c5)<|a0e<|a0g<|o6<|sr<|l7 (.int .i64 0) rfl<|dk<|?_
  obtain ⟨p36,hb1,hf⟩:=ob hf
  refine a4a (X:={q:Unit // p36 = .go q}) (fun q => ([],[])) ?_ ?_
  ·refine a0z (X:={q:Nat // a3a b_2 (a_1.drop q) q = some p36}) (fun q => ([(0,(.lst 6 (a_1.map o7))),(1,(.lst 6 (b_2.map o7))),(5,(.int .i64 (q.1:Int)))],[])) (fun q => a_1.length - q.1) ⟨0,hb1⟩ ⟨[],[],_,_,rfl,rfl,⟨.refl _,⟨.refl _,⟨.refl _,trivial⟩⟩⟩,(.refl _)⟩ ?_
   rintro ⟨i_25,hc1⟩
   have hc1:a3a b_2 (a_1.drop i_25) i_25 = some p36:=hc1
   refine (show awp Try.prog false 0 _ (ofL [(0,(.lst 6 (a_1.map o7))),(1,(.lst 6 (b_2.map o7))),(5,(.int .i64 (i_25:Int)))]) [] _ from ?_)
   rcases a5c a_1 i_25 with ⟨hie39,hd42⟩ | ⟨hlt37,x_43,hx38,hd42⟩
   ·rw [hd42,a3a.eq_1] at hc1
    have hq41:=dlf hie39
    refine o6<|sr<|l7 (.int .i64 (i_25:Int)) rfl<|l7 (.lst 6 (a_1.map o7)) rfl<|a0o (a1c (enc:=o7) rfl) fun hl44 => y8 (.bool (decide ((i_25:Int) < (a_1.length:Int)))) rfl rfl rfl<|dk<|y7 rfl hq41<|a1y<|a1x<|a1i<|a1w<|?_;obtain rfl:=os hc1;exact a5z ⟨_,rfl⟩ ⟨[],[],_,_,rfl,rfl,trivial,(.refl _)⟩
   ·rw [hd42,a3a.eq_2] at hc1
    have hq41:=dlt hlt37
    refine o6<|sr<|l7 (.int .i64 (i_25:Int)) rfl<|l7 (.lst 6 (a_1.map o7)) rfl<|a0o (a1c (enc:=o7) rfl) fun hl45 => y8 (.bool (decide ((i_25:Int) < (a_1.length:Int)))) rfl rfl rfl<|dk<|y5 rfl hq41<|a0e<|a0g<|o6<|a3j<|sr<|?_
    obtain ⟨x_46,ex47,hc1⟩:=ob hc1
    obtain ⟨r_48,er49,hc1⟩:=ob hc1
    refine l7 (.lst 6 (a_1.map o7)) rfl<|l7 (.int .i64 (i_25:Int)) rfl<|a0b (a1a (enc:=o7) rfl rfl hx38)<|y8 (o7 x_43) rfl nle rfl<|l7 (.lst 6 (b_2.map o7)) rfl<|l7 (.int .i64 (i_25:Int)) rfl<|a0b (a4w (enc:=o7) rfl rfl (b0q ex47) (b0r ex47))<|y8 (o7 x_46) rfl nle rfl<|a3i (a1t (b9i _ _ _ er49) rfl (.refl _) rfl) b1w trivial<|y8 (.bool (!r_48)) rfl trivial rfl<|dk<|?_
    rcases oi hc1 with ⟨c50,hc1⟩ | ⟨c50,hc1⟩
    ·refine y5 rfl c50<|sr<|l7 (.bool false) rfl<|dk<|a0k<|?_;obtain rfl:=os hc1;obtain rfl:=os hf;exact a0l ⟨trivial,trivial⟩ rfl (.refl _)
    ·refine y7 rfl (bf c50)<|a0e<|a2s<|a0g<|a0y<|l7 (.int .i64 (i_25:Int)) rfl<|y8 (.int .i64 (w64 ((i_25:Int) + 1))) rfl rfl rfl<|l7 (.int .i64 (w64 ((i_25:Int) + 1))) rfl<|a0m<|?_;exact a1e ⟨(i_25 + 1),hc1⟩ (mul hlt37) ⟨[],[],_,_,rfl,rfl,⟨.refl _,⟨.refl _,⟨.of_eq (congrArg (AV.int _) (a1j hlt37 hl45)),trivial⟩⟩⟩,(.refl _)⟩
  ·rintro ⟨_,rfl⟩
   refine sr<|l7 (.bool true) rfl<|dk<|a0k<|?_;obtain rfl:=os hf;exact a0l ⟨trivial,trivial⟩ rfl (.refl _)

/- laws.eqRowS -/
def c13:a0r :=
 (.seq (.reg (tm 4 (.c (.bool false)) .done))
 (.seq (.seq (.reg (tm 6 (.t 0) (tq 7 (.len (.t 6)) (tm 8 (.t 1) (tq 9 (.len (.t 8)) (tq 10 (.bin .neq (.t 7) (.t 9)) .done))))))
 (.cond (.t 10) (.seq (.reg (tm 4 (.c (.bool false)) .done))
 .ret)
 .skip))
 (.seq (.seq (.reg (tm 5 (.c (.int .i64 0)) .done))
 (.block 0 (.loop (.seq (.seq (.reg (tm 11 (.t 5) (tm 12 (.t 0) (tq 13 (.len (.t 12)) (tq 14 (.bin .lss (.t 11) (.t 13)) .done)))))
 (.cond (.t 14) .skip
 (.exit 0)))
 (.seq (.block 1 (.seq (.reg (tm 17 (.t 0) (tm 18 (.t 5) (tq 19 (.iaddr 2 (.t 17) (.t 18)) (tq 20 (.load 2 true (.t 19)) (tm 21 (.t 1) (tm 22 (.t 5) (tq 23 (.iaddr 2 (.t 21) (.t 22)) (tq 24 (.load 2 true (.t 23)) (.l ⟨(some 25),none,.call 51 [(.t 20),(.t 24)]⟩ []
 (tq 26 (.not (.t 25)) .done) .non))))))))))
 (.cond (.t 26) (.seq (.reg (tm 4 (.c (.bool false)) .done))
 .ret)
 .skip)))
 (.reg (tm 15 (.t 5) (tq 16 (.bin .add (.t 15) (.c (.int .i64 1))) (tm 5 (.t 16) .done)))))))))
 (.cut (.seq (.reg (tm 4 (.c (.bool true)) .done))
 .ret)))))
theorem e0n:a1p Try.prog Try.f13 = some (c13.erase,[.mov (.t 4)],27):=by kernel_rfl
def a4r (b_2:(List x9)):List x9 → Nat → Option (Fl Bool Unit)
  | [],i_25 =>
    some (.go ())
  | x_43 :: xs,i_25 =>
    (idx b_2 (i_25:Int)).bind fun x_46 =>
    (a8r x_43 x_46).bind fun r_48 =>
    if (!r_48) then
    some (.ret false)
    else
    a4r b_2 xs (i_25 + 1)

def b0i (a_1:(List x9)) (b_2:(List x9)):Option Bool :=
    if ((a_1.length:Int) != (b_2.length:Int)) then
    some false
    else
    (a4r b_2 a_1 0).bind fun q => (match q with
    | .ret r => some r
    | .go _ =>
    some true)
theorem c2o (a_1:(List x9)) (b_2:(List x9)) (r:Bool) (hf:b0i a_1 b_2 = some r):a0d Try.prog 13 .flat [(.lst 2 (a_1.map l9)),(.lst 2 (b_2.map l9))] (.bool r):=by
 refine a0d.of_awp mixed Try.func13 e0n nle ?_;rw [a0t];unfold b0i at hf;unfold c13;refine (show awp Try.prog false 0 _ (ofL [(0,(.lst 2 (a_1.map l9))),(1,(.lst 2 (b_2.map l9)))]) [] _ from ?_);refine sr<|l7 (.bool false) rfl<|dk<|o6<|sr<|l7 (.lst 2 (a_1.map l9)) rfl<|a0o (a1c (enc:=l9) rfl) fun hl3 => l7 (.lst 2 (b_2.map l9)) rfl<|a0o (a1c (enc:=l9) rfl) fun hl4 => y8 (.bool ((a_1.length:Int) != (b_2.length:Int))) rfl rfl rfl<|dk<|?_
 rcases oi hf with ⟨c5,hf⟩ | ⟨c5,hf⟩
 ·refine y5 rfl c5<|sr<|l7 (.bool false) rfl<|dk<|a0k<|?_;obtain rfl:=os hf;exact a0l ⟨trivial,trivial⟩ rfl (.refl _)
 ·refine y7 rfl (bf c5)<|a0e<|a0g<|o6<|sr<|l7 (.int .i64 0) rfl<|dk<|?_
  obtain ⟨p36,hb1,hf⟩:=ob hf
  refine a4a (X:={q:Unit // p36 = .go q}) (fun q => ([],[])) ?_ ?_
  ·refine a0z (X:={q:Nat // a4r b_2 (a_1.drop q) q = some p36}) (fun q => ([(0,(.lst 2 (a_1.map l9))),(1,(.lst 2 (b_2.map l9))),(5,(.int .i64 (q.1:Int)))],[])) (fun q => a_1.length - q.1) ⟨0,hb1⟩ ⟨[],[],_,_,rfl,rfl,⟨.refl _,⟨.refl _,⟨.refl _,trivial⟩⟩⟩,(.refl _)⟩ ?_
   rintro ⟨i_25,hc1⟩
   have hc1:a4r b_2 (a_1.drop i_25) i_25 = some p36:=hc1
   refine (show awp Try.prog false 0 _ (ofL [(0,(.lst 2 (a_1.map l9))),(1,(.lst 2 (b_2.map l9))),(5,(.int .i64 (i_25:Int)))]) [] _ from ?_)
   rcases a5c a_1 i_25 with ⟨hie39,hd42⟩ | ⟨hlt37,x_43,hx38,hd42⟩
   ·rw [hd42,a4r.eq_1] at hc1
    have hq41:=dlf hie39
    refine o6<|sr<|l7 (.int .i64 (i_25:Int)) rfl<|l7 (.lst 2 (a_1.map l9)) rfl<|a0o (a1c (enc:=l9) rfl) fun hl44 => y8 (.bool (decide ((i_25:Int) < (a_1.length:Int)))) rfl rfl rfl<|dk<|y7 rfl hq41<|a1y<|a1x<|a1i<|a1w<|?_;obtain rfl:=os hc1;exact a5z ⟨_,rfl⟩ ⟨[],[],_,_,rfl,rfl,trivial,(.refl _)⟩
   ·rw [hd42,a4r.eq_2] at hc1
    have hq41:=dlt hlt37
    refine o6<|sr<|l7 (.int .i64 (i_25:Int)) rfl<|l7 (.lst 2 (a_1.map l9)) rfl<|a0o (a1c (enc:=l9) rfl) fun hl45 => y8 (.bool (decide ((i_25:Int) < (a_1.length:Int)))) rfl rfl rfl<|dk<|y5 rfl hq41<|a0e<|a0g<|o6<|a3j<|sr<|?_
    obtain ⟨x_46,ex47,hc1⟩:=ob hc1
    obtain ⟨r_48,er49,hc1⟩:=ob hc1
    refine l7 (.lst 2 (a_1.map l9)) rfl<|l7 (.int .i64 (i_25:Int)) rfl<|a0b (a1a (enc:=l9) rfl rfl hx38)<|y8 (l9 x_43) rfl nle rfl<|l7 (.lst 2 (b_2.map l9)) rfl<|l7 (.int .i64 (i_25:Int)) rfl<|a0b (a4w (enc:=l9) rfl rfl (b0q ex47) (b0r ex47))<|y8 (l9 x_46) rfl nle rfl<|a3i (a1t (b2r _ _ _ er49) rfl (.refl _) rfl) b1w trivial<|y8 (.bool (!r_48)) rfl trivial rfl<|dk<|?_
    rcases oi hc1 with ⟨c50,hc1⟩ | ⟨c50,hc1⟩
    ·refine y5 rfl c50<|sr<|l7 (.bool false) rfl<|dk<|a0k<|?_;obtain rfl:=os hc1;obtain rfl:=os hf;exact a0l ⟨trivial,trivial⟩ rfl (.refl _)
    ·refine y7 rfl (bf c50)<|a0e<|a2s<|a0g<|a0y<|l7 (.int .i64 (i_25:Int)) rfl<|y8 (.int .i64 (w64 ((i_25:Int) + 1))) rfl rfl rfl<|l7 (.int .i64 (w64 ((i_25:Int) + 1))) rfl<|a0m<|?_;exact a1e ⟨(i_25 + 1),hc1⟩ (mul hlt37) ⟨[],[],_,_,rfl,rfl,⟨.refl _,⟨.refl _,⟨.of_eq (congrArg (AV.int _) (a1j hlt37 hl45)),trivial⟩⟩⟩,(.refl _)⟩
  ·rintro ⟨_,rfl⟩
   refine sr<|l7 (.bool true) rfl<|dk<|a0k<|?_;obtain rfl:=os hf;exact a0l ⟨trivial,trivial⟩ rfl (.refl _)

/- laws.eqRowSS -/
def c63:a0r :=
 (.seq (.reg (tm 4 (.c (.bool false)) .done))
 (.seq (.seq (.reg (tm 6 (.t 0) (tq 7 (.len (.t 6)) (tm 8 (.t 1) (tq 9 (.len (.t 8)) (tq 10 (.bin .neq (.t 7) (.t 9)) .done))))))
 (.cond (.t 10) (.seq (.reg (tm 4 (.c (.bool false)) .done))
 .ret)
 .skip))
 (.seq (.seq (.reg (tm 5 (.c (.int .i64 0)) .done))
 (.block 0 (.loop (.seq (.seq (.reg (tm 11 (.t 5) (tm 12 (.t 0) (tq 13 (.len (.t 12)) (tq 14 (.bin .lss (.t 11) (.t 13)) .done)))))
 (.cond (.t 14) .skip
 (.exit 0)))
 (.seq (.block 1 (.seq (.reg (tm 17 (.t 0) (tm 18 (.t 5) (tq 19 (.iaddr 1 (.t 17) (.t 18)) (tq 20 (.load 1 false (.t 19)) (tm 21 (.t 1) (tm 22 (.t 5) (tq 23 (.iaddr 1 (.t 21) (.t 22)) (tq 24 (.load 1 false (.t 23)) (.l ⟨(some 25),none,.call 13 [(.t 20),(.t 24)]⟩ []
 (tq 26 (.not (.t 25)) .done) .non))))))))))
 (.cond (.t 26) (.seq (.reg (tm 4 (.c (.bool false)) .done))
 .ret)
 .skip)))
 (.reg (tm 15 (.t 5) (tq 16 (.bin .add (.t 15) (.c (.int .i64 1))) (tm 5 (.t 16) .done)))))))))
 (.cut (.seq (.reg (tm 4 (.c (.bool true)) .done))
 .ret)))))
theorem e0o:a1p Try.prog Try.f63 = some (c63.erase,[.mov (.t 4)],27):=by kernel_rfl
def a4l (b_2:(List (List x9))):List (List x9) → Nat → Option (Fl Bool Unit)
  | [],i_25 =>
    some (.go ())
  | x_43 :: xs,i_25 =>
    (idx b_2 (i_25:Int)).bind fun x_46 =>
    (b0i x_43 x_46).bind fun r_48 =>
    if (!r_48) then
    some (.ret false)
    else
    a4l b_2 xs (i_25 + 1)

def a9n (a_1:(List (List x9))) (b_2:(List (List x9))):Option Bool :=
    if ((a_1.length:Int) != (b_2.length:Int)) then
    some false
    else
    (a4l b_2 a_1 0).bind fun q => (match q with
    | .ret r => some r
    | .go _ =>
    some true)
theorem c1m (a_1:(List (List x9))) (b_2:(List (List x9))) (r:Bool) (hf:a9n a_1 b_2 = some r):a0d Try.prog 63 .flat [(.lst 1 (a_1.map (o8 2 l9))),(.lst 1 (b_2.map (o8 2 l9)))] (.bool r):=by
 refine a0d.of_awp mixed Try.func63 e0o nle ?_;rw [a0t];unfold a9n at hf;unfold c63;refine (show awp Try.prog false 0 _ (ofL [(0,(.lst 1 (a_1.map (o8 2 l9)))),(1,(.lst 1 (b_2.map (o8 2 l9))))]) [] _ from ?_);refine sr<|l7 (.bool false) rfl<|dk<|o6<|sr<|l7 (.lst 1 (a_1.map (o8 2 l9))) rfl<|a0o (a1c (enc:=(o8 2 l9)) rfl) fun hl3 => l7 (.lst 1 (b_2.map (o8 2 l9))) rfl<|a0o (a1c (enc:=(o8 2 l9)) rfl) fun hl4 => y8 (.bool ((a_1.length:Int) != (b_2.length:Int))) rfl rfl rfl<|dk<|?_
 rcases oi hf with ⟨c5,hf⟩ | ⟨c5,hf⟩
 ·refine y5 rfl c5<|sr<|l7 (.bool false) rfl<|dk<|a0k<|?_;obtain rfl:=os hf;exact a0l ⟨trivial,trivial⟩ rfl (.refl _)
 ·refine y7 rfl (bf c5)<|a0e<|a0g<|o6<|sr<|l7 (.int .i64 0) rfl<|dk<|?_
  obtain ⟨p36,hb1,hf⟩:=ob hf
  refine a4a (X:={q:Unit // p36 = .go q}) (fun q => ([],[])) ?_ ?_
  ·refine a0z (X:={q:Nat // a4l b_2 (a_1.drop q) q = some p36}) (fun q => ([(0,(.lst 1 (a_1.map (o8 2 l9)))),(1,(.lst 1 (b_2.map (o8 2 l9)))),(5,(.int .i64 (q.1:Int)))],[])) (fun q => a_1.length - q.1) ⟨0,hb1⟩ ⟨[],[],_,_,rfl,rfl,⟨.refl _,⟨.refl _,⟨.refl _,trivial⟩⟩⟩,(.refl _)⟩ ?_
   rintro ⟨i_25,hc1⟩
   have hc1:a4l b_2 (a_1.drop i_25) i_25 = some p36:=hc1
   refine (show awp Try.prog false 0 _ (ofL [(0,(.lst 1 (a_1.map (o8 2 l9)))),(1,(.lst 1 (b_2.map (o8 2 l9)))),(5,(.int .i64 (i_25:Int)))]) [] _ from ?_)
   rcases a5c a_1 i_25 with ⟨hie39,hd42⟩ | ⟨hlt37,x_43,hx38,hd42⟩
   ·rw [hd42,a4l.eq_1] at hc1
    have hq41:=dlf hie39
    refine o6<|sr<|l7 (.int .i64 (i_25:Int)) rfl<|l7 (.lst 1 (a_1.map (o8 2 l9))) rfl<|a0o (a1c (enc:=(o8 2 l9)) rfl) fun hl44 => y8 (.bool (decide ((i_25:Int) < (a_1.length:Int)))) rfl rfl rfl<|dk<|y7 rfl hq41<|a1y<|a1x<|a1i<|a1w<|?_;obtain rfl:=os hc1;exact a5z ⟨_,rfl⟩ ⟨[],[],_,_,rfl,rfl,trivial,(.refl _)⟩
   ·rw [hd42,a4l.eq_2] at hc1
    have hq41:=dlt hlt37
    refine o6<|sr<|l7 (.int .i64 (i_25:Int)) rfl<|l7 (.lst 1 (a_1.map (o8 2 l9))) rfl<|a0o (a1c (enc:=(o8 2 l9)) rfl) fun hl45 => y8 (.bool (decide ((i_25:Int) < (a_1.length:Int)))) rfl rfl rfl<|dk<|y5 rfl hq41<|a0e<|a0g<|o6<|a3j<|sr<|?_
    obtain ⟨x_46,ex47,hc1⟩:=ob hc1
    obtain ⟨r_48,er49,hc1⟩:=ob hc1
    refine l7 (.lst 1 (a_1.map (o8 2 l9))) rfl<|l7 (.int .i64 (i_25:Int)) rfl<|a0b (a1a (enc:=(o8 2 l9)) rfl rfl hx38)<|y8 (.lst 2 (x_43.map l9)) rfl ⟨rfl,rfl⟩ rfl<|l7 (.lst 1 (b_2.map (o8 2 l9))) rfl<|l7 (.int .i64 (i_25:Int)) rfl<|a0b (a4w (enc:=(o8 2 l9)) rfl rfl (b0q ex47) (b0r ex47))<|y8 (.lst 2 (x_46.map l9)) rfl ⟨rfl,rfl⟩ rfl<|a3i (a1t (c2o _ _ _ er49) rfl (.refl _) rfl) b1w trivial<|y8 (.bool (!r_48)) rfl trivial rfl<|dk<|?_
    rcases oi hc1 with ⟨c50,hc1⟩ | ⟨c50,hc1⟩
    ·refine y5 rfl c50<|sr<|l7 (.bool false) rfl<|dk<|a0k<|?_;obtain rfl:=os hc1;obtain rfl:=os hf;exact a0l ⟨trivial,trivial⟩ rfl (.refl _)
    ·refine y7 rfl (bf c50)<|a0e<|a2s<|a0g<|a0y<|l7 (.int .i64 (i_25:Int)) rfl<|y8 (.int .i64 (w64 ((i_25:Int) + 1))) rfl rfl rfl<|l7 (.int .i64 (w64 ((i_25:Int) + 1))) rfl<|a0m<|?_;exact a1e ⟨(i_25 + 1),hc1⟩ (mul hlt37) ⟨[],[],_,_,rfl,rfl,⟨.refl _,⟨.refl _,⟨.of_eq (congrArg (AV.int _) (a1j hlt37 hl45)),trivial⟩⟩⟩,(.refl _)⟩
  ·rintro ⟨_,rfl⟩
   refine sr<|l7 (.bool true) rfl<|dk<|a0k<|?_;obtain rfl:=os hf;exact a0l ⟨trivial,trivial⟩ rfl (.refl _)

/- laws.eqStore -/
def c24:a0r :=
 (.seq (.reg (tq 2 (.box 2 (.t 0)) (tq 3 (.box 2 (.t 1)) (tm 4 (.c (.bool false)) .done))))
 (.seq (.seq (.reg (tq 5 (.faddr 0 (.t 2)) (tq 6 (.load 1 false (.t 5)) (tq 7 (.faddr 0 (.t 3)) (tq 8 (.load 1 false (.t 7)) (tq 9 (.call 63 [(.t 6),(.t 8)]) (tq 10 (.not (.t 9)) .done)))))))
 (.cond (.t 10) (.seq (.reg (tm 4 (.c (.bool false)) .done))
 .ret)
 .skip))
 (.seq (.seq (.reg (tq 11 (.faddr 1 (.t 2)) (tq 12 (.load 1 false (.t 11)) (tq 13 (.faddr 1 (.t 3)) (tq 14 (.load 1 false (.t 13)) (tq 15 (.bin .neq (.t 12) (.t 14)) .done))))))
 (.cond (.t 15) (.seq (.reg (tm 4 (.c (.bool false)) .done))
 .ret)
 .skip))
 (.seq (.reg (tm 4 (.c (.bool true)) .done))
 .ret))))
theorem e0p:a1p Try.prog Try.f24 = some (c24.erase,[.mov (.t 4)],16):=by kernel_rfl
def a7w (a_1:a1d) (b_2:a1d):Option Bool :=
    (a9n a_1.Tables b_2.Tables).bind fun r_3 =>
    if (!r_3) then
    some false
    else
    if (a_1.Next != b_2.Next) then
    some false
    else
    some true
theorem b3z (a_1:a1d) (b_2:a1d) (r:Bool) (hf:a7w a_1 b_2 = some r):a0d Try.prog 24 .flat [(a1r a_1),(a1r b_2)] (.bool r):=by
 refine a0d.of_awp mixed Try.func24 e0p nle ?_;rw [a0t];unfold a7w at hf;unfold c24;refine (show awp Try.prog false 0 _ (ofL [(0,(a1r a_1)),(1,(a1r b_2))]) [] _ from ?_);refine sr<|a0b (a2t (j:=0) (c:=(.agg [(.lst 1 (a_1.Tables.map (o8 2 l9))),(.int .i64 a_1.Next)])) rfl trivial rfl rfl)<|a0b (a2t (j:=1) (c:=(.agg [(.lst 1 (b_2.Tables.map (o8 2 l9))),(.int .i64 b_2.Next)])) rfl trivial rfl rfl)<|l7 (.bool false) rfl<|dk<|o6<|sr<|?_
 obtain ⟨r_3,er4,hf⟩:=ob hf
 refine y8 (.ptr 0 0 0) rfl trivial rfl<|y8 (.lst 1 (a_1.Tables.map (o8 2 l9))) rfl nle rfl<|y8 (.ptr 1 0 0) rfl trivial rfl<|y8 (.lst 1 (b_2.Tables.map (o8 2 l9))) rfl nle rfl<|a0b (a1t (c1m _ _ _ er4) rfl (.refl _) rfl)<|y8 (.bool (!r_3)) rfl trivial rfl<|dk<|?_
 rcases oi hf with ⟨c5,hf⟩ | ⟨c5,hf⟩
 ·refine y5 rfl c5<|sr<|l7 (.bool false) rfl<|dk<|a0k<|?_;obtain rfl:=os hf;exact a0l ⟨trivial,trivial⟩ rfl (.refl _)
 ·refine y7 rfl (bf c5)<|a0e<|a0g<|o6<|sr<|y8 (.ptr 0 0 1) rfl trivial rfl<|y8 (.int .i64 a_1.Next) rfl nle rfl<|y8 (.ptr 1 0 1) rfl trivial rfl<|y8 (.int .i64 b_2.Next) rfl nle rfl<|y8 (.bool (a_1.Next != b_2.Next)) rfl rfl rfl<|dk<|?_
  rcases oi hf with ⟨c6,hf⟩ | ⟨c6,hf⟩
  ·refine y5 rfl c6<|sr<|l7 (.bool false) rfl<|dk<|a0k<|?_;obtain rfl:=os hf;exact a0l ⟨trivial,trivial⟩ rfl (.refl _)
  ·refine y7 rfl (bf c6)<|a0e<|a0g<|sr<|l7 (.bool true) rfl<|dk<|a0k<|?_;obtain rfl:=os hf;exact a0l ⟨trivial,trivial⟩ rfl (.refl _)

/- laws.markText -/
def c105:a0r :=
 (.seq (.reg (tm 2 (.c (.str [])) .done))
 (.seq (.seq (.reg (tm 4 (.t 0) (tq 5 (.bin .leq (.t 4) (.c (.int .i64 0))) .done)))
 (.cond (.t 5) (.seq (.reg (tm 2 (.c (.str [109,48])) .done))
 .ret)
 .skip))
 (.seq (.reg (tm 3 (.c (.str [])) .done))
 (.seq (.block 0 (.loop (.seq (.seq (.reg (tm 6 (.t 0) (tq 7 (.bin .gtr (.t 6) (.c (.int .i64 0))) .done)))
 (.cond (.t 7) .skip
 (.exit 0)))
 (.block 1 (.seq (.reg (tm 8 (.t 0) (tq 9 (.bin .rem (.t 8) (.c (.int .i64 10))) (tq 10 (.bin .add (.c (.int .i64 48)) (.t 9)) (tq 11 (.convI .u8 (.t 10)) (tq 12 (.bslice 1 [(.t 11)]) (tq 13 (.convBS (.t 12)) (tm 14 (.t 3) (tq 15 (.bin .add (.t 13) (.t 14)) (tm 3 (.t 15) .done))))))))))
 (.reg (tm 16 (.t 0) (tq 17 (.bin .quo (.t 16) (.c (.int .i64 10))) (tm 0 (.t 17) .done)))))))))
 (.cut (.seq (.reg (tm 18 (.t 3) (tq 19 (.bin .add (.c (.str [109])) (.t 18)) (tm 2 (.t 19) .done))))
 .ret))))))
theorem d8t:a1p Try.prog Try.f105 = some (c105.erase,[.mov (.t 2)],20):=by kernel_rfl
def a3r :Nat → Int → Str → Option Str
  | 0,_,_ => none
  | k + 1,k_9,out_10 =>
    if (decide (k_9 > 0)) then
    if (c7g [IntKind.u8.wrap (w64 (48 + (k_9.tmod 10)))]).length + out_10.length ≤ maxLen then
    a3r k (w64 (k_9.tdiv 10)) ((c7g [IntKind.u8.wrap (w64 (48 + (k_9.tmod 10)))]) ++ out_10)
    else none
    else
    some out_10

def a5r (k_1:Int):Option Str :=
    if (decide (k_1 ≤ 0)) then
    some [109,48]
    else
    (a3r FUEL k_1 []).bind fun out_13 =>
    if [109].length + out_13.length ≤ maxLen then
    some ([109] ++ out_13)
    else none
theorem b3a (k_1:Int) (r:Str) (hf:a5r k_1 = some r):a0d Try.prog 105 .flat [(.int .i64 k_1)] (.str r):=by
 refine a0d.of_awp mixed Try.func105 d8t nle ?_;rw [a0t];unfold a5r at hf;unfold c105;refine (show awp Try.prog false 0 _ (ofL [(0,(.int .i64 k_1))]) [] _ from ?_);refine sr<|l7 (.str []) rfl<|dk<|o6<|sr<|l7 (.int .i64 k_1) rfl<|y8 (.bool (decide (k_1 ≤ 0))) rfl rfl rfl<|dk<|?_
 rcases oi hf with ⟨c2,hf⟩ | ⟨c2,hf⟩
 ·refine y5 rfl c2<|sr<|l7 (.str [109,48]) rfl<|dk<|a0k<|?_;obtain rfl:=os hf;exact a0l ⟨trivial,trivial⟩ rfl (.refl _)
 ·refine y7 rfl (bf c2)<|a0e<|a0g<|sr<|l7 (.str []) rfl<|dk<|o6<|?_
  obtain ⟨out_13,hb1,hf⟩:=ob hf
  refine a2e ([(3,(.str out_13))],[]) ?_ ?_
  ·refine a0z (X:={q:(Nat × Int × Str) // a3r q.1 q.2.1 q.2.2 = some out_13}) (fun q => ([(0,(.int .i64 q.1.2.1)),(3,(.str q.1.2.2))],[])) (fun q => q.1.1) ⟨(FUEL,k_1,[]),hb1⟩ ⟨[],[],_,_,rfl,rfl,⟨.refl _,⟨.refl _,trivial⟩⟩,(.refl _)⟩ ?_
   rintro ⟨⟨k,k_9,out_10⟩,hc1⟩
   have hc1:a3r k k_9 out_10 = some out_13:=hc1
   refine (show awp Try.prog false 0 _ (ofL [(0,(.int .i64 k_9)),(3,(.str out_10))]) [] _ from ?_)
   rcases k with _ | k
   ·rw [a3r.eq_1] at hc1
    cases hc1
   ·rw [a3r.eq_2] at hc1;refine o6<|sr<|l7 (.int .i64 k_9) rfl<|y8 (.bool (decide (k_9 > 0))) rfl rfl rfl<|dk<|?_
    rcases oi hc1 with ⟨c15,hc1⟩ | ⟨c15,hc1⟩
    ·refine y5 rfl c15<|a0e<|a0g<|a3j<|sr<|?_
     obtain ⟨g16,hc1⟩:=og hc1
     refine l7 (.int .i64 k_9) rfl<|y8 (.int .i64 (k_9.tmod 10)) rfl ⟨rfl,by decide⟩ rfl<|y8 (.int .i64 (w64 (48 + (k_9.tmod 10)))) rfl rfl rfl<|y8 (.int .u8 (IntKind.u8.wrap (w64 (48 + (k_9.tmod 10))))) rfl trivial rfl<|?_;refine a0b (a3t (j:=0) (as':=[(.int .u8 (IntKind.u8.wrap (w64 (48 + (k_9.tmod 10)))))]) rfl (fun _ => by decide) ⟨rfl,trivial⟩ (.refl _) rfl rfl rfl) ?_;refine a0b (d0x (l:=[IntKind.u8.wrap (w64 (48 + (k_9.tmod 10)))]) rfl rfl (by simp))<|l7 (.str out_10) rfl<|y8 (.str ((c7g [IntKind.u8.wrap (w64 (48 + (k_9.tmod 10)))]) ++ out_10)) rfl g16 rfl<|l7 (.str ((c7g [IntKind.u8.wrap (w64 (48 + (k_9.tmod 10)))]) ++ out_10)) rfl<|dk<|a0y<|l7 (.int .i64 k_9) rfl<|?_
     refine y8 (.int .i64 (w64 (k_9.tdiv 10))) rfl ⟨rfl,by decide⟩ rfl<|l7 (.int .i64 (w64 (k_9.tdiv 10))) rfl<|a0m<|a2s<|?_;exact a1e ⟨(k,w64 (k_9.tdiv 10),(c7g [IntKind.u8.wrap (w64 (48 + (k_9.tmod 10)))]) ++ out_10),hc1⟩ (Nat.lt_succ_self _) ⟨[],[],_,_,rfl,rfl,⟨.refl _,⟨.refl _,trivial⟩⟩,(.refl _)⟩
    ·refine y7 rfl (bf c15)<|a1y<|a1x<|a1i<|a1w<|?_;obtain rfl:=os hc1;exact ⟨[],[],_,_,rfl,rfl,⟨.refl _,trivial⟩,(.refl _)⟩
  ·refine sr<|?_
   obtain ⟨g17,hf⟩:=og hf
   refine l7 (.str out_13) rfl<|y8 (.str ([109] ++ out_13)) rfl g17 rfl<|l7 (.str ([109] ++ out_13)) rfl<|dk<|a0k<|?_;obtain rfl:=os hf;exact a0l ⟨trivial,trivial⟩ rfl (.refl _)

/- laws.markAtomS -/
def d3d:a0r :=
 (.seq (.reg (tm 4 (.c (.int .i64 0)) .done))
 (.seq (.seq (.reg (tm 5 (.c (.int .i64 0)) .done))
 (.block 0 (.loop (.seq (.seq (.reg (tm 6 (.t 5) (tm 7 (.t 0) (tq 8 (.len (.t 7)) (tq 9 (.bin .lss (.t 6) (.t 8)) .done)))))
 (.cond (.t 9) .skip
 (.exit 0)))
 (.seq (.block 1 (.seq (.reg (tm 12 (.t 0) (tm 13 (.t 5) (tm 14 (.t 1) (tq 15 (.iaddr 3 (.t 12) (.t 13)) (tq 16 (.faddr 0 (.t 15)) (.q ⟨none,none,.store 1 (.t 16) (.t 14)⟩
 .done)))))))
 (.seq (.reg (tm 17 (.t 1) (tq 18 (.bin .add (.t 17) (.c (.int .i64 1))) (tm 1 (.t 18) .done))))
 (.seq (.reg (tm 19 (.t 0) (tm 20 (.t 5) (tm 21 (.t 1) (tq 22 (.iaddr 3 (.t 19) (.t 20)) (tq 23 (.faddr 1 (.t 22)) (.q ⟨none,none,.store 1 (.t 23) (.t 21)⟩
 .done)))))))
 (.seq (.reg (tm 24 (.t 1) (tq 25 (.bin .add (.t 24) (.c (.int .i64 1))) (tm 1 (.t 25) .done))))
 (.seq (.reg (tm 26 (.t 0) (tm 27 (.t 5) (tm 28 (.t 1) (tq 29 (.call 105 [(.t 28)]) (tq 30 (.iaddr 3 (.t 26) (.t 27)) (tq 31 (.faddr 2 (.t 30)) (.q ⟨none,none,.store 1 (.t 31) (.t 29)⟩
 .done))))))))
 (.reg (tm 32 (.t 1) (tq 33 (.bin .add (.t 32) (.c (.int .i64 1))) (tm 1 (.t 33) .done))))))))))
 (.reg (tm 10 (.t 5) (tq 11 (.bin .add (.t 10) (.c (.int .i64 1))) (tm 5 (.t 11) .done)))))))))
 (.cut (.seq (.reg (tm 34 (.t 1) (tm 4 (.t 34) .done)))
 .ret))))
theorem d5f:a1p Try.prog Try.f83 = some (d3d.erase,[.mov (.t 4)],35):=by kernel_rfl
def a3b :Nat → Int → Int → (List y9) → Option (Int × (List y9))
  | 0,_,_,_ => none
  | k + 1,k_58,i_59,a_60 =>
    if (decide (i_59 < (a_60.length:Int))) then
    if (0:Int) ≤ i_59 ∧ i_59 < (a_60.length:Int) then
    (a_60[(0 + i_59.toNat)]?).bind fun x_76 =>
    if (0:Int) ≤ i_59 ∧ i_59 < (a_60.length:Int) then
    (a5r (w64 ((w64 (k_58 + 1)) + 1))).bind fun r_79 =>
    if (0:Int) ≤ i_59 ∧ i_59 < (a_60.length:Int) then
    a3b k (w64 ((w64 ((w64 (k_58 + 1)) + 1)) + 1)) (w64 (i_59 + 1)) (((a_60.set (0 + i_59.toNat) (⟨k_58,x_76.N,x_76.T⟩:y9)).set (0 + i_59.toNat) (⟨k_58,w64 (k_58 + 1),x_76.T⟩:y9)).set (0 + i_59.toNat) (⟨k_58,w64 (k_58 + 1),r_79⟩:y9))
    else none
    else none
    else none
    else
    some (k_58,a_60)

def a7o (a_1:(List y9)) (k_2:Int):Option (Int × (List y9)) :=
    (a3b FUEL k_2 0 a_1).bind fun p72 =>
    (match p72 with
    | (k_70,l_71) =>
    some (k_70,l_71))
theorem b7y (a_1:(List y9)) (k_2:Int) (r:(Int × (List y9))) (hf:a7o a_1 k_2 = some r):a1l Try.prog ⟨true,true,false⟩ 83 [(.own 0 0 a_1.length),(.int .i64 k_2)] [.row 3 (a_1.map o5)] (.int .i64 r.1) [.row 3 (r.2.map o5)]:=by
 refine a1l.of_awp mixed Try.func83 d5f nle ?_;rw [a0t];unfold a7o at hf;unfold d3d;refine (show awp Try.prog ⟨true,true,false⟩ 1 _ (ofL [(0,(.own 0 0 a_1.length)),(1,(.int .i64 k_2))]) [.row 3 (a_1.map o5)] _ from ?_);refine sr<|l7 (.int .i64 0) rfl<|dk<|o6<|sr<|l7 (.int .i64 0) rfl<|dk<|?_
 obtain ⟨p72,hb1,hf⟩:=ob hf
 refine a2e ([(1,(.int .i64 p72.1))],[.row 3 (p72.2.map o5)]) ?_ ?_
 ·refine a0z (X:={q:(Nat × Int × Int × (List y9)) // a3b q.1 q.2.1 q.2.2.1 q.2.2.2 = some p72}) (fun q => ([(0,(.own 0 0 q.1.2.2.2.length)),(1,(.int .i64 q.1.2.1)),(5,(.int .i64 q.1.2.2.1))],[.row 3 (q.1.2.2.2.map o5)])) (fun q => q.1.1) ⟨(FUEL,k_2,0,a_1),hb1⟩ ⟨[],[0],_,_,rfl,rfl,⟨.refl _,⟨.refl _,⟨.refl _,trivial⟩⟩⟩,(.refl _)⟩ ?_
  rintro ⟨⟨k,k_58,i_59,a_60⟩,hc1⟩
  have hc1:a3b k k_58 i_59 a_60 = some p72:=hc1
  refine (show awp Try.prog ⟨true,true,false⟩ 1 _ (ofL [(0,(.own 0 0 a_60.length)),(1,(.int .i64 k_58)),(5,(.int .i64 i_59))]) [.row 3 (a_60.map o5)] _ from ?_)
  rcases k with _ | k
  ·rw [a3b.eq_1] at hc1
   cases hc1
  ·rw [a3b.eq_2] at hc1;refine o6<|sr<|l7 (.int .i64 i_59) rfl<|l7 (.own 0 0 a_60.length) rfl<|a0o (a5f rfl rfl) fun hl73 => y8 (.bool (decide (i_59 < (a_60.length:Int)))) rfl (.of rfl trivial) rfl<|dk<|?_
   rcases oi hc1 with ⟨c74,hc1⟩ | ⟨c74,hc1⟩
   ·refine y5 rfl c74<|a0e<|a0g<|o6<|a3j<|sr<|?_
    obtain ⟨g75,hc1⟩:=og hc1
    obtain ⟨x_76,ex77,hc1⟩:=ob hc1
    refine l7 (.own 0 0 a_60.length) rfl<|l7 (.int .i64 i_59) rfl<|l7 (.int .i64 k_58) rfl<|a0b (a2d rfl rfl g75.1 g75.2 rfl rfl)<|y8 (.ptr 0 (0 + i_59.toNat) 0) rfl (.of trivial trivial) rfl<|?_;refine a4o (a5a (v':=(.int .i64 k_58)) (e':=(⟨k_58,x_76.N,x_76.T⟩:y9)) rfl rfl ex77 rfl rfl rfl (by decide) (fun _ => by decide) ⟨rfl,nle⟩ (.refl _) rfl) ?_;refine dk<|sr<|l7 (.int .i64 k_58) rfl<|y8 (.int .i64 (w64 (k_58 + 1))) rfl (.of rfl trivial) rfl<|l7 (.int .i64 (w64 (k_58 + 1))) rfl<|dk<|sr<|?_
    obtain ⟨g78,hc1⟩:=og hc1
    refine l7 (.own 0 0 a_60.length) rfl<|l7 (.int .i64 i_59) rfl<|l7 (.int .i64 (w64 (k_58 + 1))) rfl<|a0b (a2d rfl rfl g78.1 g78.2 rfl rfl)<|y8 (.ptr 0 (0 + i_59.toNat) 1) rfl (.of trivial trivial) rfl<|?_;refine a4o (a5a (v':=(.int .i64 (w64 (k_58 + 1)))) (e':=(⟨k_58,w64 (k_58 + 1),x_76.T⟩:y9)) rfl rfl (a2u ex77) rfl rfl rfl (by decide) (fun _ => by decide) ⟨rfl,nle⟩ (.refl _) rfl) ?_;refine dk<|sr<|l7 (.int .i64 (w64 (k_58 + 1))) rfl<|y8 (.int .i64 (w64 ((w64 (k_58 + 1)) + 1))) rfl (.of rfl trivial) rfl<|l7 (.int .i64 (w64 ((w64 (k_58 + 1)) + 1))) rfl<|dk<|sr<|?_
    obtain ⟨r_79,er80,hc1⟩:=ob hc1
    obtain ⟨g81,hc1⟩:=og hc1
    refine l7 (.own 0 0 a_60.length) rfl<|l7 (.int .i64 i_59) rfl<|l7 (.int .i64 (w64 ((w64 (k_58 + 1)) + 1))) rfl<|a0b (a1t (b3a _ _ er80) rfl (.refl _) rfl)<|a0b (a2d rfl rfl g81.1 g81.2 rfl rfl)<|y8 (.ptr 0 (0 + i_59.toNat) 2) rfl (.of trivial trivial) rfl<|?_;refine a4o (a5a (v':=(.str r_79)) (e':=(⟨k_58,w64 (k_58 + 1),r_79⟩:y9)) rfl rfl (a2u (a2u ex77)) rfl rfl rfl (by decide) (fun _ => by decide) ⟨rfl,nle⟩ (.refl _) rfl) ?_;refine dk<|a0y<|l7 (.int .i64 (w64 ((w64 (k_58 + 1)) + 1))) rfl<|y8 (.int .i64 (w64 ((w64 ((w64 (k_58 + 1)) + 1)) + 1))) rfl (.of rfl trivial) rfl<|l7 (.int .i64 (w64 ((w64 ((w64 (k_58 + 1)) + 1)) + 1))) rfl<|?_
    refine a0m<|a2s<|a0g<|a0y<|l7 (.int .i64 i_59) rfl<|y8 (.int .i64 (w64 (i_59 + 1))) rfl (.of rfl trivial) rfl<|l7 (.int .i64 (w64 (i_59 + 1))) rfl<|a0m<|?_;exact a1e ⟨(k,w64 ((w64 ((w64 (k_58 + 1)) + 1)) + 1),w64 (i_59 + 1),((a_60.set (0 + i_59.toNat) (⟨k_58,x_76.N,x_76.T⟩:y9)).set (0 + i_59.toNat) (⟨k_58,w64 (k_58 + 1),x_76.T⟩:y9)).set (0 + i_59.toNat) (⟨k_58,w64 (k_58 + 1),r_79⟩:y9)),hc1⟩ (Nat.lt_succ_self _) ⟨[],[0],_,_,rfl,rfl,⟨.of_eq (congrArg (AV.own _ 0) (by simp)),⟨.refl _,⟨.refl _,trivial⟩⟩⟩,(.refl _)⟩
   ·refine y7 rfl (bf c74)<|a1y<|a1x<|a1i<|a1w<|?_;obtain rfl:=os hc1;exact ⟨[],[0],_,_,rfl,rfl,⟨.refl _,trivial⟩,(.refl _)⟩
 ·obtain ⟨k_70,l_71⟩:=p72
  refine sr<|l7 (.int .i64 k_70) rfl<|l7 (.int .i64 k_70) rfl<|dk<|a0k<|?_;obtain rfl:=os hf;exact a8n [] [0] rfl ⟨.of trivial trivial,trivial⟩ rfl (.refl _) (.refl _)

/- laws.markAtomSS -/
def d3e:a0r :=
 (.seq (.reg (tm 4 (.c (.int .i64 0)) .done))
 (.seq (.seq (.reg (tm 5 (.c (.int .i64 0)) .done))
 (.block 0 (.loop (.seq (.seq (.reg (tm 6 (.t 5) (tm 7 (.t 0) (tq 8 (.len (.t 7)) (tq 9 (.bin .lss (.t 6) (.t 8)) .done)))))
 (.cond (.t 9) .skip
 (.exit 0)))
 (.seq (.block 1 (.rev (.reg (tm 12 (.t 0) (tm 13 (.t 5) (tq 14 (.iaddr 1 (.t 12) (.t 13)) (tq 15 (.load 1 false (.t 14)) (tm 16 (.t 1) (tq 17 (.call 83 [(.t 15),(.t 16)]) (tm 1 (.t 17) .done))))))))))
 (.reg (tm 10 (.t 5) (tq 11 (.bin .add (.t 10) (.c (.int .i64 1))) (tm 5 (.t 11) .done)))))))))
 (.cut (.seq (.reg (tm 18 (.t 1) (tm 4 (.t 18) .done)))
 .ret))))
theorem d5g:a1p Try.prog Try.f53 = some (d3e.erase,[.mov (.t 4)],19):=by kernel_rfl
def a2p :Nat → Int → Int → (List (List y9)) → Option (Int × (List (List y9)))
  | 0,_,_,_ => none
  | k + 1,k_58,i_59,a_60 =>
    if (decide (i_59 < (a_60.length:Int))) then
    ((a_60[(0 + i_59.toNat)]?)).bind fun x_76 =>
    if (0:Int) ≤ i_59 ∧ i_59 < (a_60.length:Int) then
    (a7o x_76 k_58).bind fun r_80 =>
    a2p k r_80.1 (w64 (i_59 + 1)) (a_60.set (0 + i_59.toNat) r_80.2)
    else none
    else
    some (k_58,a_60)

def a5l (a_1:(List (List y9))) (k_2:Int):Option (Int × (List (List y9))) :=
    (a2p FUEL k_2 0 a_1).bind fun p72 =>
    (match p72 with
    | (k_70,l_71) =>
    some (k_70,l_71))
theorem a9o (a_1:(List (List y9))) (k_2:Int) (r:(Int × (List (List y9)))) (hf:a5l a_1 k_2 = some r):a1l Try.prog ⟨true,true,false⟩ 53 [(.own 0 0 a_1.length),(.int .i64 k_2)] [.row 1 (a_1.map (o8 3 o5))] (.int .i64 r.1) [.row 1 (r.2.map (o8 3 o5))]:=by
 refine a1l.of_awp mixed Try.func53 d5g nle ?_;rw [a0t];unfold a5l at hf;unfold d3e;refine (show awp Try.prog ⟨true,true,false⟩ 1 _ (ofL [(0,(.own 0 0 a_1.length)),(1,(.int .i64 k_2))]) [.row 1 (a_1.map (o8 3 o5))] _ from ?_);refine sr<|l7 (.int .i64 0) rfl<|dk<|o6<|sr<|l7 (.int .i64 0) rfl<|dk<|?_
 obtain ⟨p72,hb1,hf⟩:=ob hf
 refine a2e ([(1,(.int .i64 p72.1))],[.row 1 (p72.2.map (o8 3 o5))]) ?_ ?_
 ·refine a0z (X:={q:(Nat × Int × Int × (List (List y9))) // a2p q.1 q.2.1 q.2.2.1 q.2.2.2 = some p72}) (fun q => ([(0,(.own 0 0 q.1.2.2.2.length)),(1,(.int .i64 q.1.2.1)),(5,(.int .i64 q.1.2.2.1))],[.row 1 (q.1.2.2.2.map (o8 3 o5))])) (fun q => q.1.1) ⟨(FUEL,k_2,0,a_1),hb1⟩ ⟨[],[0],_,_,rfl,rfl,⟨.refl _,⟨.refl _,⟨.refl _,trivial⟩⟩⟩,(.refl _)⟩ ?_
  rintro ⟨⟨k,k_58,i_59,a_60⟩,hc1⟩
  have hc1:a2p k k_58 i_59 a_60 = some p72:=hc1
  refine (show awp Try.prog ⟨true,true,false⟩ 1 _ (ofL [(0,(.own 0 0 a_60.length)),(1,(.int .i64 k_58)),(5,(.int .i64 i_59))]) [.row 1 (a_60.map (o8 3 o5))] _ from ?_)
  rcases k with _ | k
  ·rw [a2p.eq_1] at hc1
   cases hc1
  ·rw [a2p.eq_2] at hc1;refine o6<|sr<|l7 (.int .i64 i_59) rfl<|l7 (.own 0 0 a_60.length) rfl<|a0o (a5f rfl rfl) fun hl73 => y8 (.bool (decide (i_59 < (a_60.length:Int)))) rfl (.of rfl trivial) rfl<|dk<|?_
   rcases oi hc1 with ⟨c74,hc1⟩ | ⟨c74,hc1⟩
   ·refine y5 rfl c74<|a0e<|a0g<|o6<|a3j<|?_
    obtain ⟨x_76,ex77,hc1⟩:=ob hc1
    refine c7c (o:=0) (f:=0) (l':=x_76) (enc':=o5) (el:=(.lst 3 (x_76.map o5))) rfl ex77 rfl rfl fun v_78 => ?_;refine a0y ?_
    obtain ⟨g79,hc1⟩:=og hc1
    obtain ⟨r_80,er81,hc1⟩:=ob hc1
    refine l7 (.own 0 0 a_60.length) rfl<|l7 (.int .i64 i_59) rfl<|a0b (a2d rfl rfl g79.1 g79.2 rfl rfl)<|a0b (b2c rfl rfl (b7v ex77) ⟨rfl,rfl⟩ rfl)<|l7 (.int .i64 k_58) rfl<|a0b (b6s (o:=0) (l:=a_60) (enc:=(o8 3 o5)) (enc':=o5) (l'':=r_80.2) (y:=r_80.2) (j:=0) (el:=(.hdr v_78 3 (x_76.map o5))) rfl rfl (b7y _ _ _ er81) rfl rfl ex77 rfl (by decide) rfl)<|l7 (.int .i64 r_80.1) rfl<|a0m<|a2s<|a0g<|a0y<|l7 (.int .i64 i_59) rfl<|y8 (.int .i64 (w64 (i_59 + 1))) rfl (.of rfl trivial) rfl<|l7 (.int .i64 (w64 (i_59 + 1))) rfl<|a0m<|?_;exact a1e ⟨(k,r_80.1,w64 (i_59 + 1),a_60.set (0 + i_59.toNat) r_80.2),hc1⟩ (Nat.lt_succ_self _) ⟨[],[0],_,_,rfl,rfl,⟨.of_eq (congrArg (AV.own _ 0) (by simp)),⟨.refl _,⟨.refl _,trivial⟩⟩⟩,(.refl _)⟩
   ·refine y7 rfl (bf c74)<|a1y<|a1x<|a1i<|a1w<|?_;obtain rfl:=os hc1;exact ⟨[],[0],_,_,rfl,rfl,⟨.refl _,trivial⟩,(.refl _)⟩
 ·obtain ⟨k_70,l_71⟩:=p72
  refine sr<|l7 (.int .i64 k_70) rfl<|l7 (.int .i64 k_70) rfl<|dk<|a0k<|?_;obtain rfl:=os hf;exact a8n [] [0] rfl ⟨.of trivial trivial,trivial⟩ rfl (.refl _) (.refl _)

/- laws.markRowS -/
def d3f:a0r :=
 (.seq (.reg (tm 4 (.c (.int .i64 0)) .done))
 (.seq (.seq (.reg (tm 5 (.c (.int .i64 0)) .done))
 (.block 0 (.loop (.seq (.seq (.reg (tm 6 (.t 5) (tm 7 (.t 0) (tq 8 (.len (.t 7)) (tq 9 (.bin .lss (.t 6) (.t 8)) .done)))))
 (.cond (.t 9) .skip
 (.exit 0)))
 (.seq (.block 1 (.seq (.reg (tm 12 (.t 0) (tm 13 (.t 5) (tm 14 (.t 1) (tq 15 (.iaddr 2 (.t 12) (.t 13)) (tq 16 (.faddr 0 (.t 15)) (.q ⟨none,none,.store 1 (.t 16) (.t 14)⟩
 .done)))))))
 (.seq (.reg (tm 17 (.t 1) (tq 18 (.bin .add (.t 17) (.c (.int .i64 1))) (tm 1 (.t 18) .done))))
 (.rev (.reg (tm 19 (.t 0) (tm 20 (.t 5) (tq 21 (.iaddr 2 (.t 19) (.t 20)) (tq 22 (.faddr 1 (.t 21)) (tq 23 (.load 1 false (.t 22)) (tm 24 (.t 1) (tq 25 (.call 53 [(.t 23),(.t 24)]) (tm 1 (.t 25) .done)))))))))))))
 (.reg (tm 10 (.t 5) (tq 11 (.bin .add (.t 10) (.c (.int .i64 1))) (tm 5 (.t 11) .done)))))))))
 (.cut (.seq (.reg (tm 26 (.t 1) (tm 4 (.t 26) .done)))
 .ret))))
theorem d5h:a1p Try.prog Try.f15 = some (d3f.erase,[.mov (.t 4)],27):=by kernel_rfl
def a3s :Nat → Int → Int → (List x9) → Option (Int × (List x9))
  | 0,_,_,_ => none
  | k + 1,k_63,i_64,a_65 =>
    if (decide (i_64 < (a_65.length:Int))) then
    if (0:Int) ≤ i_64 ∧ i_64 < (a_65.length:Int) then
    (a_65[(0 + i_64.toNat)]?).bind fun x_82 =>
    if (0:Int) ≤ i_64 ∧ i_64 < (a_65.length:Int) then
    (a5l x_82.Cells (w64 (k_63 + 1))).bind fun r_87 =>
    a3s k r_87.1 (w64 (i_64 + 1)) ((a_65.set (0 + i_64.toNat) (⟨k_63,x_82.Cells⟩:x9)).set (0 + i_64.toNat) (⟨k_63,r_87.2⟩:x9))
    else none
    else none
    else
    some (k_63,a_65)

def a8k (a_1:(List x9)) (k_2:Int):Option (Int × (List x9)) :=
    (a3s FUEL k_2 0 a_1).bind fun p78 =>
    (match p78 with
    | (k_76,l_77) =>
    some (k_76,l_77))
theorem b9j (a_1:(List x9)) (k_2:Int) (r:(Int × (List x9))) (hf:a8k a_1 k_2 = some r):a1l Try.prog ⟨true,true,false⟩ 15 [(.own 0 0 a_1.length),(.int .i64 k_2)] [.row 2 (a_1.map l9)] (.int .i64 r.1) [.row 2 (r.2.map l9)]:=by
 refine a1l.of_awp mixed Try.func15 d5h nle ?_;rw [a0t];unfold a8k at hf;unfold d3f;refine (show awp Try.prog ⟨true,true,false⟩ 1 _ (ofL [(0,(.own 0 0 a_1.length)),(1,(.int .i64 k_2))]) [.row 2 (a_1.map l9)] _ from ?_);refine sr<|l7 (.int .i64 0) rfl<|dk<|o6<|sr<|l7 (.int .i64 0) rfl<|dk<|?_
 obtain ⟨p78,hb1,hf⟩:=ob hf
 refine a2e ([(1,(.int .i64 p78.1))],[.row 2 (p78.2.map l9)]) ?_ ?_
 ·refine a0z (X:={q:(Nat × Int × Int × (List x9)) // a3s q.1 q.2.1 q.2.2.1 q.2.2.2 = some p78}) (fun q => ([(0,(.own 0 0 q.1.2.2.2.length)),(1,(.int .i64 q.1.2.1)),(5,(.int .i64 q.1.2.2.1))],[.row 2 (q.1.2.2.2.map l9)])) (fun q => q.1.1) ⟨(FUEL,k_2,0,a_1),hb1⟩ ⟨[],[0],_,_,rfl,rfl,⟨.refl _,⟨.refl _,⟨.refl _,trivial⟩⟩⟩,(.refl _)⟩ ?_
  rintro ⟨⟨k,k_63,i_64,a_65⟩,hc1⟩
  have hc1:a3s k k_63 i_64 a_65 = some p78:=hc1
  refine (show awp Try.prog ⟨true,true,false⟩ 1 _ (ofL [(0,(.own 0 0 a_65.length)),(1,(.int .i64 k_63)),(5,(.int .i64 i_64))]) [.row 2 (a_65.map l9)] _ from ?_)
  rcases k with _ | k
  ·rw [a3s.eq_1] at hc1
   cases hc1
  ·rw [a3s.eq_2] at hc1;refine o6<|sr<|l7 (.int .i64 i_64) rfl<|l7 (.own 0 0 a_65.length) rfl<|a0o (a5f rfl rfl) fun hl79 => y8 (.bool (decide (i_64 < (a_65.length:Int)))) rfl (.of rfl trivial) rfl<|dk<|?_
   rcases oi hc1 with ⟨c80,hc1⟩ | ⟨c80,hc1⟩
   ·refine y5 rfl c80<|a0e<|a0g<|o6<|a3j<|sr<|?_
    obtain ⟨g81,hc1⟩:=og hc1
    obtain ⟨x_82,ex83,hc1⟩:=ob hc1
    refine l7 (.own 0 0 a_65.length) rfl<|l7 (.int .i64 i_64) rfl<|l7 (.int .i64 k_63) rfl<|a0b (a2d rfl rfl g81.1 g81.2 rfl rfl)<|y8 (.ptr 0 (0 + i_64.toNat) 0) rfl (.of trivial trivial) rfl<|?_;refine a4o (a5a (v':=(.int .i64 k_63)) (e':=(⟨k_63,x_82.Cells⟩:x9)) rfl rfl ex83 rfl rfl rfl (by decide) (fun _ => by decide) ⟨rfl,nle⟩ (.refl _) rfl) ?_;refine dk<|sr<|l7 (.int .i64 k_63) rfl<|y8 (.int .i64 (w64 (k_63 + 1))) rfl (.of rfl trivial) rfl<|l7 (.int .i64 (w64 (k_63 + 1))) rfl<|dk<|?_;refine c7c (o:=0) (f:=1) (l':=x_82.Cells) (enc':=(o8 3 o5)) (el:=(.agg [(.int .i64 k_63),(.lst 1 (x_82.Cells.map (o8 3 o5)))])) rfl (a2u ex83) rfl rfl fun v_85 => ?_
    refine a0y ?_
    obtain ⟨g86,hc1⟩:=og hc1
    obtain ⟨r_87,er88,hc1⟩:=ob hc1
    refine l7 (.own 0 0 a_65.length) rfl<|l7 (.int .i64 i_64) rfl<|a0b (a2d rfl rfl g86.1 g86.2 rfl rfl)<|y8 (.ptr 0 (0 + i_64.toNat) 1) rfl (.of trivial trivial) rfl<|a0b (b2c rfl rfl (b7v (a2u ex83)) nle rfl)<|l7 (.int .i64 (w64 (k_63 + 1))) rfl<|a0b (b6s (o:=0) (l:=(a_65.set (0 + i_64.toNat) (⟨k_63,x_82.Cells⟩:x9))) (enc:=l9) (enc':=(o8 3 o5)) (l'':=r_87.2) (y:=(⟨k_63,r_87.2⟩:x9)) (j:=1) (el:=(.agg [(.int .i64 k_63),(.hdr v_85 1 (x_82.Cells.map (o8 3 o5)))])) rfl rfl (a9o _ _ _ er88) rfl rfl (a2u ex83) rfl (by decide) rfl)<|l7 (.int .i64 r_87.1) rfl<|a0m<|a2s<|a0g<|a0y<|?_
    refine l7 (.int .i64 i_64) rfl<|y8 (.int .i64 (w64 (i_64 + 1))) rfl (.of rfl trivial) rfl<|l7 (.int .i64 (w64 (i_64 + 1))) rfl<|a0m<|?_;exact a1e ⟨(k,r_87.1,w64 (i_64 + 1),(a_65.set (0 + i_64.toNat) (⟨k_63,x_82.Cells⟩:x9)).set (0 + i_64.toNat) (⟨k_63,r_87.2⟩:x9)),hc1⟩ (Nat.lt_succ_self _) ⟨[],[0],_,_,rfl,rfl,⟨.of_eq (congrArg (AV.own _ 0) (by simp)),⟨.refl _,⟨.refl _,trivial⟩⟩⟩,(.refl _)⟩
   ·refine y7 rfl (bf c80)<|a1y<|a1x<|a1i<|a1w<|?_;obtain rfl:=os hc1;exact ⟨[],[0],_,_,rfl,rfl,⟨.refl _,trivial⟩,(.refl _)⟩
 ·obtain ⟨k_76,l_77⟩:=p78
  refine sr<|l7 (.int .i64 k_76) rfl<|l7 (.int .i64 k_76) rfl<|dk<|a0k<|?_;obtain rfl:=os hf;exact a8n [] [0] rfl ⟨.of trivial trivial,trivial⟩ rfl (.refl _) (.refl _)

/- laws.markRowSS -/
def d3g:a0r :=
 (.seq (.reg (tm 4 (.c (.int .i64 0)) .done))
 (.seq (.seq (.reg (tm 5 (.c (.int .i64 0)) .done))
 (.block 0 (.loop (.seq (.seq (.reg (tm 6 (.t 5) (tm 7 (.t 0) (tq 8 (.len (.t 7)) (tq 9 (.bin .lss (.t 6) (.t 8)) .done)))))
 (.cond (.t 9) .skip
 (.exit 0)))
 (.seq (.block 1 (.rev (.reg (tm 12 (.t 0) (tm 13 (.t 5) (tq 14 (.iaddr 1 (.t 12) (.t 13)) (tq 15 (.load 1 false (.t 14)) (tm 16 (.t 1) (tq 17 (.call 15 [(.t 15),(.t 16)]) (tm 1 (.t 17) .done))))))))))
 (.reg (tm 10 (.t 5) (tq 11 (.bin .add (.t 10) (.c (.int .i64 1))) (tm 5 (.t 11) .done)))))))))
 (.cut (.seq (.reg (tm 18 (.t 1) (tm 4 (.t 18) .done)))
 .ret))))
theorem d5i:a1p Try.prog Try.f65 = some (d3g.erase,[.mov (.t 4)],19):=by kernel_rfl
def a3c :Nat → Int → Int → (List (List x9)) → Option (Int × (List (List x9)))
  | 0,_,_,_ => none
  | k + 1,k_58,i_59,a_60 =>
    if (decide (i_59 < (a_60.length:Int))) then
    ((a_60[(0 + i_59.toNat)]?)).bind fun x_76 =>
    if (0:Int) ≤ i_59 ∧ i_59 < (a_60.length:Int) then
    (a8k x_76 k_58).bind fun r_80 =>
    a3c k r_80.1 (w64 (i_59 + 1)) (a_60.set (0 + i_59.toNat) r_80.2)
    else none
    else
    some (k_58,a_60)

def a7p (a_1:(List (List x9))) (k_2:Int):Option (Int × (List (List x9))) :=
    (a3c FUEL k_2 0 a_1).bind fun p72 =>
    (match p72 with
    | (k_70,l_71) =>
    some (k_70,l_71))
theorem b7z (a_1:(List (List x9))) (k_2:Int) (r:(Int × (List (List x9)))) (hf:a7p a_1 k_2 = some r):a1l Try.prog ⟨true,true,false⟩ 65 [(.own 0 0 a_1.length),(.int .i64 k_2)] [.row 1 (a_1.map (o8 2 l9))] (.int .i64 r.1) [.row 1 (r.2.map (o8 2 l9))]:=by
 refine a1l.of_awp mixed Try.func65 d5i nle ?_;rw [a0t];unfold a7p at hf;unfold d3g;refine (show awp Try.prog ⟨true,true,false⟩ 1 _ (ofL [(0,(.own 0 0 a_1.length)),(1,(.int .i64 k_2))]) [.row 1 (a_1.map (o8 2 l9))] _ from ?_);refine sr<|l7 (.int .i64 0) rfl<|dk<|o6<|sr<|l7 (.int .i64 0) rfl<|dk<|?_
 obtain ⟨p72,hb1,hf⟩:=ob hf
 refine a2e ([(1,(.int .i64 p72.1))],[.row 1 (p72.2.map (o8 2 l9))]) ?_ ?_
 ·refine a0z (X:={q:(Nat × Int × Int × (List (List x9))) // a3c q.1 q.2.1 q.2.2.1 q.2.2.2 = some p72}) (fun q => ([(0,(.own 0 0 q.1.2.2.2.length)),(1,(.int .i64 q.1.2.1)),(5,(.int .i64 q.1.2.2.1))],[.row 1 (q.1.2.2.2.map (o8 2 l9))])) (fun q => q.1.1) ⟨(FUEL,k_2,0,a_1),hb1⟩ ⟨[],[0],_,_,rfl,rfl,⟨.refl _,⟨.refl _,⟨.refl _,trivial⟩⟩⟩,(.refl _)⟩ ?_
  rintro ⟨⟨k,k_58,i_59,a_60⟩,hc1⟩
  have hc1:a3c k k_58 i_59 a_60 = some p72:=hc1
  refine (show awp Try.prog ⟨true,true,false⟩ 1 _ (ofL [(0,(.own 0 0 a_60.length)),(1,(.int .i64 k_58)),(5,(.int .i64 i_59))]) [.row 1 (a_60.map (o8 2 l9))] _ from ?_)
  rcases k with _ | k
  ·rw [a3c.eq_1] at hc1
   cases hc1
  ·rw [a3c.eq_2] at hc1;refine o6<|sr<|l7 (.int .i64 i_59) rfl<|l7 (.own 0 0 a_60.length) rfl<|a0o (a5f rfl rfl) fun hl73 => y8 (.bool (decide (i_59 < (a_60.length:Int)))) rfl (.of rfl trivial) rfl<|dk<|?_
   rcases oi hc1 with ⟨c74,hc1⟩ | ⟨c74,hc1⟩
   ·refine y5 rfl c74<|a0e<|a0g<|o6<|a3j<|?_
    obtain ⟨x_76,ex77,hc1⟩:=ob hc1
    refine c7c (o:=0) (f:=0) (l':=x_76) (enc':=l9) (el:=(.lst 2 (x_76.map l9))) rfl ex77 rfl rfl fun v_78 => ?_;refine a0y ?_
    obtain ⟨g79,hc1⟩:=og hc1
    obtain ⟨r_80,er81,hc1⟩:=ob hc1
    refine l7 (.own 0 0 a_60.length) rfl<|l7 (.int .i64 i_59) rfl<|a0b (a2d rfl rfl g79.1 g79.2 rfl rfl)<|a0b (b2c rfl rfl (b7v ex77) ⟨rfl,rfl⟩ rfl)<|l7 (.int .i64 k_58) rfl<|a0b (b6s (o:=0) (l:=a_60) (enc:=(o8 2 l9)) (enc':=l9) (l'':=r_80.2) (y:=r_80.2) (j:=0) (el:=(.hdr v_78 2 (x_76.map l9))) rfl rfl (b9j _ _ _ er81) rfl rfl ex77 rfl (by decide) rfl)<|l7 (.int .i64 r_80.1) rfl<|a0m<|a2s<|a0g<|a0y<|l7 (.int .i64 i_59) rfl<|y8 (.int .i64 (w64 (i_59 + 1))) rfl (.of rfl trivial) rfl<|l7 (.int .i64 (w64 (i_59 + 1))) rfl<|a0m<|?_;exact a1e ⟨(k,r_80.1,w64 (i_59 + 1),a_60.set (0 + i_59.toNat) r_80.2),hc1⟩ (Nat.lt_succ_self _) ⟨[],[0],_,_,rfl,rfl,⟨.of_eq (congrArg (AV.own _ 0) (by simp)),⟨.refl _,⟨.refl _,trivial⟩⟩⟩,(.refl _)⟩
   ·refine y7 rfl (bf c74)<|a1y<|a1x<|a1i<|a1w<|?_;obtain rfl:=os hc1;exact ⟨[],[0],_,_,rfl,rfl,⟨.refl _,trivial⟩,(.refl _)⟩
 ·obtain ⟨k_70,l_71⟩:=p72
  refine sr<|l7 (.int .i64 k_70) rfl<|l7 (.int .i64 k_70) rfl<|dk<|a0k<|?_;obtain rfl:=os hf;exact a8n [] [0] rfl ⟨.of trivial trivial,trivial⟩ rfl (.refl _) (.refl _)

/- laws.markStore -/
def d3h:a0r :=
 (.seq (.reg (tq 2 (.box 2 (.t 0)) (tm 4 (.c (.int .i64 0)) .done)))
 (.seq (.reg (tq 5 (.faddr 0 (.t 2)) (tq 6 (.load 1 false (.t 5)) (tm 7 (.t 1) (tq 8 (.call 65 [(.t 6),(.t 7)]) (tm 1 (.t 8) .done))))))
 (.seq (.reg (tm 9 (.t 1) (tm 4 (.t 9) .done)))
 .ret)))
theorem d5j:a1p Try.prog Try.f26 = some (d3h.erase,[.mov (.t 4)],10):=by kernel_rfl
def a6r (a_1:a1d) (k_2:Int):Option (Int × a1d) :=
    (a7p a_1.Tables k_2).bind fun r_3 =>
    some (r_3.1,(⟨r_3.2,a_1.Next⟩:a1d))
theorem b2e (a_1:a1d) (k_2:Int) (r:(Int × a1d)) (hf:a6r a_1 k_2 = some r):a1l Try.prog ⟨true,true,false⟩ 26 [(.agg [(.own 0 0 a_1.Tables.length),(.int .i64 a_1.Next)]),(.int .i64 k_2)] [.row 1 (a_1.Tables.map (o8 2 l9))] (.int .i64 r.1) [.row 1 (r.2.Tables.map (o8 2 l9))]:=by
 refine a1l.of_awp mixed Try.func26 d5j nle ?_;rw [a0t];unfold a6r at hf;unfold d3h;refine (show awp Try.prog ⟨true,true,false⟩ 1 _ (ofL [(0,(.agg [(.own 0 0 a_1.Tables.length),(.int .i64 a_1.Next)])),(1,(.int .i64 k_2))]) [.row 1 (a_1.Tables.map (o8 2 l9))] _ from ?_);refine sr<|a0b (a2t (j:=1) (c:=(.agg [(.own 0 0 a_1.Tables.length),(.int .i64 a_1.Next)])) rfl trivial rfl rfl)<|l7 (.int .i64 0) rfl<|dk<|sr<|?_
 obtain ⟨r_3,er4,hf⟩:=ob hf
 refine y8 (.ptr 1 0 0) rfl (.of trivial trivial) rfl<|y8 (.own 0 0 a_1.Tables.length) rfl (.of nle trivial) rfl<|l7 (.int .i64 k_2) rfl<|?_;refine a0o (b3u (v:=(.int .i64 r_3.1)) (h2:=[.row 1 (r_3.2.map (o8 2 l9)),.box 2 (.agg [(.own 0 0 a_1.Tables.length),(.int .i64 a_1.Next)])]) [] [0] (fun _ => rfl) (b7z _ _ _ er4) rfl (.refl _) (.refl _) rfl rfl) fun hl5 => ?_;refine l7 (.int .i64 r_3.1) rfl<|dk<|sr<|l7 (.int .i64 r_3.1) rfl<|l7 (.int .i64 r_3.1) rfl<|dk<|a0k<|?_;obtain rfl:=os hf;exact a8n [] [0] rfl ⟨.of trivial trivial,trivial⟩ rfl (.refl _) (.refl _)

end Go.R
