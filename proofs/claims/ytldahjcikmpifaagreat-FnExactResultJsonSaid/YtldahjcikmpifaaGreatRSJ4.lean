/- Walks. -/
import Derived.Test.YtldahjcikmpifaaGreatRSJ3
set_option linter.all false
namespace Go.R
open Go Go.Proofs
set_option linter.unusedVariables false
set_option linter.unusedSimpArgs false
set_option maxHeartbeats 8000000
/- slices.Clone[[]string,string] -/
def f1t:a0m :=
 (.seq (.reg (tm 2 (.c .nil) .done))
 (.seq (.seq (.reg (tm 3 (.t 0) (tq 4 (.isnil false (.t 3)) .done)))
 (.cond (.t 4) (.seq (.reg (tm 2 (.c .nil) .done))
 .ret)
 .skip))
 (.seq (.reg (tq 5 (.bslice 1 []) (tm 6 (.t 0) (tq 7 (.append 1 16 (.t 5) (.t 6)) (tm 2 (.t 7) .done)))))
 .ret)))
theorem f1u:a1b Tryz.prog Tryz.f197 = some (f1t.erase,[.mov (.t 2)],8):=by kernel_rfl
def a5x (A:(List Str)):Option (List Str) :=
    if ([] ++ A).length ≤ 2 ^ 30 then
    some ([] ++ A)
    else none
theorem b5d (A:(List Str)) (r:(List Str)) (hf:a5x A = some r):a0a Tryz.prog 197 .fresh [(.lst 1 (A.map AV.str))] (.lst 1 (r.map AV.str)):=by
 refine a0a.of_awp mixed Tryz.func197 f1u nle ?_;rw [a0l];unfold a5x at hf;unfold f1t;refine (show awp Tryz.prog true 0 _ (ofL [(0,(.lst 1 (A.map AV.str)))]) [] _ from ?_);refine sr<|l7 .nil rfl<|dk<|o7<|sr<|l7 (.lst 1 (A.map AV.str)) rfl<|e7w (l:=A.map AV.str) rfl<|?_
 intro b hb3
 rcases b with _ | _
 ·refine dk<|y9 rfl rfl<|a0j<|a0i<|sr<|?_
  obtain ⟨g2,hf⟩:=og hf
  refine x9 (a0o (j:=0) (as':=[]) rfl (fun _ => by decide) tr .r rfl rfl rfl) ?_;refine l7 (.lst 1 (A.map AV.str)) rfl ?_
  refine x9 (a4e (j:=1) (L:=(([] ++ A).map AV.str)) (len:=([] ++ A).length) rfl false rfl rfl (fun _ => flm (fun _ => rfl) _) (fun _ _ _ => flm (fun _ => rfl) _) (by decide) ((by simp)) (by simp <;> omega) g2 rfl rfl) ?_
  refine l7 (.own 1 0 (([] ++ A).length)) rfl<|dk<|a0e<|?_;obtain rfl:=os hf;exact a2m ⟨tr,tr⟩ rfl (by decide) (.of_eq (congrArg (AV.lst _) (tk (enc:=AV.str) ([] ++ A))))
 ·have he4:A = []:=e6w (hb3 rfl)
  have hE:(if ([] ++ A).length ≤ 2 ^ 30 then some ([] ++ A) else none) = (some []):=by simp [he4]
  rw [hE] at hf;refine dk<|y8 rfl rfl<|sr<|l7 .nil rfl<|dk<|a0e<|?_;obtain rfl:=os hf;exact a2m ⟨tr,tr⟩ rfl (by decide) (.nil _)

/- math/bits.Len64 -/
def f1v:a0m :=
 (.seq (.reg (tm 2 (.c (.int .i64 0)) .done))
 (.seq (.seq (.reg (tm 3 (.t 0) (tq 4 (.bin .geq (.t 3) (.c (.int .u64 4294967296))) .done)))
 (.cond (.t 4) (.seq (.reg (tm 5 (.t 0) (tq 6 (.bin .shr (.t 5) (.c (.int .u64 32))) (tm 0 (.t 6) .done))))
 (.reg (tm 2 (.c (.int .i64 32)) .done)))
 .skip))
 (.cut (.seq (.seq (.reg (tm 7 (.t 0) (tq 8 (.bin .geq (.t 7) (.c (.int .u64 65536))) .done)))
 (.cond (.t 8) (.seq (.reg (tm 9 (.t 0) (tq 10 (.bin .shr (.t 9) (.c (.int .u64 16))) (tm 0 (.t 10) .done))))
 (.reg (tm 11 (.t 2) (tq 12 (.bin .add (.t 11) (.c (.int .i64 16))) (tm 2 (.t 12) .done)))))
 .skip))
 (.cut (.seq (.seq (.reg (tm 13 (.t 0) (tq 14 (.bin .geq (.t 13) (.c (.int .u64 256))) .done)))
 (.cond (.t 14) (.seq (.reg (tm 15 (.t 0) (tq 16 (.bin .shr (.t 15) (.c (.int .u64 8))) (tm 0 (.t 16) .done))))
 (.reg (tm 17 (.t 2) (tq 18 (.bin .add (.t 17) (.c (.int .i64 8))) (tm 2 (.t 18) .done)))))
 .skip))
 (.seq (.reg (tm 19 (.t 2) (tm 20 (.t 0) (tq 21 (.convI .u8 (.t 20)) (tq 22 (.idxs (.c (.str [0,1,2,2,3,3,3,3,4,4,4,4,4,4,4,4,5,5,5,5,5,5,5,5,5,5,5,5,5,5,5,5,6,6,6,6,6,6,6,6,6,6,6,6,6,6,6,6,6,6,6,6,6,6,6,6,6,6,6,6,6,6,6,6,7,7,7,7,7,7,7,7,7,7,7,7,7,7,7,7,7,7,7,7,7,7,7,7,7,7,7,7,7,7,7,7,7,7,7,7,7,7,7,7,7,7,7,7,7,7,7,7,7,7,7,7,7,7,7,7,7,7,7,7,7,7,7,7,8,8,8,8,8,8,8,8,8,8,8,8,8,8,8,8,8,8,8,8,8,8,8,8,8,8,8,8,8,8,8,8,8,8,8,8,8,8,8,8,8,8,8,8,8,8,8,8,8,8,8,8,8,8,8,8,8,8,8,8,8,8,8,8,8,8,8,8,8,8,8,8,8,8,8,8,8,8,8,8,8,8,8,8,8,8,8,8,8,8,8,8,8,8,8,8,8,8,8,8,8,8,8,8,8,8,8,8,8,8,8,8,8,8,8,8,8,8,8,8,8,8,8,8,8,8,8,8])) (.t 21)) (tq 23 (.convI .i64 (.t 22)) (tq 24 (.bin .add (.t 19) (.t 23)) (tm 2 (.t 24) .done))))))))
 .ret)))))))
theorem f1w:a1b Tryz.prog Tryz.f345 = some (f1v.erase,[.mov (.t 2)],25):=by kernel_rfl
def b5e (B:Int):Option Int :=
    ((if (decide (B ≥ 4294967296)) then
    some (Int.fdiv B (2 ^ (min (Int.toNat 32) (IntKind.bits .u64))),32)
    else
    some (B,0):Option (Int × Int))).bind fun p5 =>
    (match p5 with
    | (E,H) =>
    ((if (decide (E ≥ 65536)) then
    some (Int.fdiv E (2 ^ (min (Int.toNat 16) (IntKind.bits .u64))),w64 (H + 16))
    else
    some (E,H):Option (Int × Int))).bind fun p10 =>
    (match p10 with
    | (A,D) =>
    if (decide (A ≥ 256)) then
    (idx ([0,1,2,2,3,3,3,3,4,4,4,4,4,4,4,4,5,5,5,5,5,5,5,5,5,5,5,5,5,5,5,5,6,6,6,6,6,6,6,6,6,6,6,6,6,6,6,6,6,6,6,6,6,6,6,6,6,6,6,6,6,6,6,6,7,7,7,7,7,7,7,7,7,7,7,7,7,7,7,7,7,7,7,7,7,7,7,7,7,7,7,7,7,7,7,7,7,7,7,7,7,7,7,7,7,7,7,7,7,7,7,7,7,7,7,7,7,7,7,7,7,7,7,7,7,7,7,7,8,8,8,8,8,8,8,8,8,8,8,8,8,8,8,8,8,8,8,8,8,8,8,8,8,8,8,8,8,8,8,8,8,8,8,8,8,8,8,8,8,8,8,8,8,8,8,8,8,8,8,8,8,8,8,8,8,8,8,8,8,8,8,8,8,8,8,8,8,8,8,8,8,8,8,8,8,8,8,8,8,8,8,8,8,8,8,8,8,8,8,8,8,8,8,8,8,8,8,8,8,8,8,8,8,8,8,8,8,8,8,8,8,8,8,8,8,8,8,8,8,8,8,8,8,8,8,8]:Str) (IntKind.u8.wrap (Int.fdiv A (2 ^ (min (Int.toNat 8) (IntKind.bits .u64)))))).bind fun F =>
    some (w64 ((w64 (D + 8)) + (w64 (F.toNat:Int))))
    else
    (idx ([0,1,2,2,3,3,3,3,4,4,4,4,4,4,4,4,5,5,5,5,5,5,5,5,5,5,5,5,5,5,5,5,6,6,6,6,6,6,6,6,6,6,6,6,6,6,6,6,6,6,6,6,6,6,6,6,6,6,6,6,6,6,6,6,7,7,7,7,7,7,7,7,7,7,7,7,7,7,7,7,7,7,7,7,7,7,7,7,7,7,7,7,7,7,7,7,7,7,7,7,7,7,7,7,7,7,7,7,7,7,7,7,7,7,7,7,7,7,7,7,7,7,7,7,7,7,7,7,8,8,8,8,8,8,8,8,8,8,8,8,8,8,8,8,8,8,8,8,8,8,8,8,8,8,8,8,8,8,8,8,8,8,8,8,8,8,8,8,8,8,8,8,8,8,8,8,8,8,8,8,8,8,8,8,8,8,8,8,8,8,8,8,8,8,8,8,8,8,8,8,8,8,8,8,8,8,8,8,8,8,8,8,8,8,8,8,8,8,8,8,8,8,8,8,8,8,8,8,8,8,8,8,8,8,8,8,8,8,8,8,8,8,8,8,8,8,8,8,8,8,8,8,8,8,8,8]:Str) (IntKind.u8.wrap A)).bind fun G =>
    some (w64 (D + (w64 (G.toNat:Int))))))
theorem c3h (B:Int) (r:Int) (hf:b5e B = some r):a0a Tryz.prog 345 .flat [(.int .u64 B)] (.I r):=by
 refine a0a.of_awp mixed Tryz.func345 f1w nle ?_;rw [a0l];unfold b5e at hf;unfold f1v;refine (show awp Tryz.prog false 0 _ (ofL [(0,(.int .u64 B))]) [] _ from ?_);refine sr<|l7 (.I 0) rfl<|dk<|o7<|?_
 obtain ⟨p5,hb1,hf⟩:=ob hf
 refine a1s ([(0,(.int .u64 p5.1)),(2,(.I p5.2))],[]) ?_ ?_
 ·refine sr<|l7 (.int .u64 B) rfl<|x8 (.bool (decide (B ≥ 4294967296))) rfl rfl rfl<|dk<|?_
  rcases oi hb1 with ⟨c6,hb1⟩ | ⟨c6,hb1⟩
  ·refine y8 rfl c6<|sr<|l7 (.int .u64 B) rfl<|?_;refine x9 (o_q (.int .u64 (Int.fdiv B (2 ^ (min (Int.toNat 32) (IntKind.bits .u64))))) rfl (show (0:Int) ≤ 32 by decide) rfl) ?_;refine l7 (.int .u64 (Int.fdiv B (2 ^ (min (Int.toNat 32) (IntKind.bits .u64))))) rfl<|dk<|a0s<|l7 (.I 32) rfl<|a0h<|?_;obtain rfl:=os hb1;exact ⟨[],[],_,_,rfl,rfl,⟨.r,⟨.r,tr⟩⟩,.r⟩
  ·refine y9 rfl (bf c6)<|a0j<|?_;obtain rfl:=os hb1;exact ⟨[],[],_,_,rfl,rfl,⟨.r,⟨.r,tr⟩⟩,.r⟩
 ·obtain ⟨E,H⟩:=p5
  refine o7 ?_
  obtain ⟨p10,hb1,hf⟩:=ob hf
  refine a1s ([(0,(.int .u64 p10.1)),(2,(.I p10.2))],[]) ?_ ?_
  ·refine sr<|l7 (.int .u64 E) rfl<|x8 (.bool (decide (E ≥ 65536))) rfl rfl rfl<|dk<|?_
   rcases oi hb1 with ⟨c11,hb1⟩ | ⟨c11,hb1⟩
   ·refine y8 rfl c11<|sr<|l7 (.int .u64 E) rfl<|?_;refine x9 (o_q (.int .u64 (Int.fdiv E (2 ^ (min (Int.toNat 16) (IntKind.bits .u64))))) rfl (show (0:Int) ≤ 16 by decide) rfl) ?_;refine l7 (.int .u64 (Int.fdiv E (2 ^ (min (Int.toNat 16) (IntKind.bits .u64))))) rfl<|dk<|a0s<|l7 (.I H) rfl<|x8 (.I (w64 (H + 16))) rfl rfl rfl<|l7 (.I (w64 (H + 16))) rfl<|a0h<|?_;obtain rfl:=os hb1;exact ⟨[],[],_,_,rfl,rfl,⟨.r,⟨.r,tr⟩⟩,.r⟩
   ·refine y9 rfl (bf c11)<|a0j<|?_;obtain rfl:=os hb1;exact ⟨[],[],_,_,rfl,rfl,⟨.r,⟨.r,tr⟩⟩,.r⟩
  ·obtain ⟨A,D⟩:=p10
   refine o7<|sr<|l7 (.int .u64 A) rfl<|x8 (.bool (decide (A ≥ 256))) rfl rfl rfl<|dk<|?_
   rcases oi hf with ⟨c12,hf⟩ | ⟨c12,hf⟩
   ·refine y8 rfl c12<|sr<|l7 (.int .u64 A) rfl<|?_;refine x9 (o_q (.int .u64 (Int.fdiv A (2 ^ (min (Int.toNat 8) (IntKind.bits .u64))))) rfl (show (0:Int) ≤ 8 by decide) rfl) ?_;refine l7 (.int .u64 (Int.fdiv A (2 ^ (min (Int.toNat 8) (IntKind.bits .u64))))) rfl<|dk<|a0s<|l7 (.I D) rfl<|x8 (.I (w64 (D + 8))) rfl rfl rfl<|l7 (.I (w64 (D + 8))) rfl<|dk<|sr<|?_
    obtain ⟨F,eb14,hf⟩:=ob hf
    refine l7 (.I (w64 (D + 8))) rfl<|l7 (.int .u64 (Int.fdiv A (2 ^ (min (Int.toNat 8) (IntKind.bits .u64))))) rfl<|x8 (.int .u8 (IntKind.u8.wrap (Int.fdiv A (2 ^ (min (Int.toNat 8) (IntKind.bits .u64)))))) rfl tr rfl<|x9 (d3q rfl rfl (b3m eb14) (b3n eb14))<|x8 (.I (w64 (F.toNat:Int))) rfl tr rfl<|x8 (.I (w64 ((w64 (D + 8)) + (w64 (F.toNat:Int))))) rfl rfl rfl<|l7 (.I (w64 ((w64 (D + 8)) + (w64 (F.toNat:Int))))) rfl<|dk<|a0e<|?_;obtain rfl:=os hf;exact a0g ⟨tr,tr⟩ rfl .r
   ·refine y9 rfl (bf c12)<|a0j<|a0i<|sr<|?_
    obtain ⟨G,eb16,hf⟩:=ob hf
    refine l7 (.I D) rfl<|l7 (.int .u64 A) rfl<|x8 (.int .u8 (IntKind.u8.wrap A)) rfl tr rfl<|x9 (d3q rfl rfl (b3m eb16) (b3n eb16))<|x8 (.I (w64 (G.toNat:Int))) rfl tr rfl<|x8 (.I (w64 (D + (w64 (G.toNat:Int))))) rfl rfl rfl<|l7 (.I (w64 (D + (w64 (G.toNat:Int))))) rfl<|dk<|a0e<|?_;obtain rfl:=os hf;exact a0g ⟨tr,tr⟩ rfl .r

/- math/bits.Len -/
def f1x:a0m :=
 (.seq (.reg (tm 2 (.c (.int .i64 0)) .done))
 (.seq (.cond (.c (.bool false)) (.seq (.reg (tm 3 (.t 0) (tq 4 (.convI .u32 (.t 3)) (tq 5 (.call 344 [(.t 4)]) (tm 2 (.t 5) .done)))))
 .ret)
 .skip)
 (.seq (.reg (tm 6 (.t 0) (tq 7 (.call 345 [(.t 6)]) (tm 2 (.t 7) .done))))
 .ret)))
theorem f1y:a1b Tryz.prog Tryz.f288 = some (f1x.erase,[.mov (.t 2)],8):=by kernel_rfl
def b1c (A:Int):Option Int :=
    (b5e A).bind fun B =>
    some B
theorem c6u (A:Int) (r:Int) (hf:b1c A = some r):a0a Tryz.prog 288 .flat [(.int .u64 A)] (.I r):=by
  refine a0a.of_awp mixed Tryz.func288 f1y nle ?_
  rw [a0l]
  unfold b1c at hf
  unfold f1x
  refine (show awp Tryz.prog false 0 _ (ofL [(0,(.int .u64 A))]) [] _ from ?_)
  refine o7 ?_
  refine a0s ?_
  refine x9 (a3p (.I 0) rfl) ?_
  refine a0h ?_
  refine a0i ?_
  refine o7 ?_
  refine e2r ?_
  refine a0j ?_
  refine a0i ?_
  refine o7 ?_
  refine a0s ?_
  obtain ⟨B,er3,hf⟩:=ob hf
  refine x9 (a3p (.int .u64 A) rfl) ?_
  refine x9 (a0n (c3h _ _ er3) rfl .r rfl) ?_
  refine x9 (a3p (.I B) rfl) ?_
  refine a0h ?_
  refine a0i ?_
  refine a0e ?_
  obtain rfl:=os hf
  exact a0g ⟨tr,tr⟩ rfl .r

/- cmp.isNaN[string] -/
def f1z:a0m :=
 (.seq (.reg (tm 2 (.c (.bool false)) .done))
 (.seq (.reg (tm 3 (.t 0) (tm 4 (.t 0) (tq 5 (.bin .neq (.t 3) (.t 4)) (tm 2 (.t 5) .done)))))
 .ret))
theorem f2a:a1b Tryz.prog Tryz.f383 = some (f1z.erase,[.mov (.t 2)],6):=by kernel_rfl
def cmp_isNaN_string (A:Str):Option Bool :=
    some (!(A == A))
theorem b6f (A:Str) (r:Bool) (hf:cmp_isNaN_string A = some r):a0a Tryz.prog 383 .flat [(.str A)] (.bool r):=by
  refine a0a.of_awp mixed Tryz.func383 f2a nle ?_
  rw [a0l]
  unfold cmp_isNaN_string at hf
  unfold f1z
  refine (show awp Tryz.prog false 0 _ (ofL [(0,(.str A))]) [] _ from ?_)
  refine o7 ?_
  refine a0s ?_
  refine x9 (a3p (.bool false) rfl) ?_
  refine a0h ?_
  refine a0i ?_
  refine o7 ?_
  refine a0s ?_
  refine x9 (a3p (.str A) rfl) ?_
  refine x9 (a3p (.str A) rfl) ?_
  refine x9 (o_q (.bool (!(A == A))) rfl tr rfl) ?_
  refine x9 (a3p (.bool (!(A == A))) rfl) ?_
  refine a0h ?_
  refine a0i ?_
  refine a0e ?_
  obtain rfl:=os hf
  exact a0g ⟨tr,tr⟩ rfl .r

/- cmp.Less[string] -/
def f2b:a0m :=
 (.seq (.reg (tm 4 (.c (.bool false)) .done))
 (.seq (.reg (tm 5 (.t 0) (tq 6 (.call 383 [(.t 5)]) (tm 7 (.t 6) (tg 8 7 true (.mov (.t 1)) (tg 9 7 true (.call 383 [(.t 8)]) (tg 10 7 true (.not (.t 9)) (tq 11 (.pick (.t 7) (.t 10) (.c (.bool false))) (tm 12 (.t 11) (tg 13 12 false (.mov (.t 0)) (tg 14 12 false (.mov (.t 1)) (tg 15 12 false (.bin .lss (.t 13) (.t 14)) (tq 16 (.pick (.t 12) (.c (.bool true)) (.t 15)) (tm 4 (.t 16) .done))))))))))))))
 .ret))
theorem f2c:a1b Tryz.prog Tryz.f341 = some (f2b.erase,[.mov (.t 4)],17):=by kernel_rfl
def cmp_Less_string (A:Str) (B:Str):Option Bool :=
    (cmp_isNaN_string A).bind fun E =>
    if E then
    (cmp_isNaN_string B).bind fun D =>
    some (bif (!D) then true else (Op.bytesLess A B))
    else
    some (Op.bytesLess A B)
theorem c3i (A:Str) (B:Str) (r:Bool) (hf:cmp_Less_string A B = some r):a0a Tryz.prog 341 .flat [(.str A),(.str B)] (.bool r):=by
 refine a0a.of_awp mixed Tryz.func341 f2c nle ?_;rw [a0l];unfold cmp_Less_string at hf;unfold f2b;refine (show awp Tryz.prog false 0 _ (ofL [(0,(.str A)),(1,(.str B))]) [] _ from ?_);refine sr<|l7 (.bool false) rfl<|dk<|sr<|l7 (.str A) rfl<|?_
 obtain ⟨E,er4,hf⟩:=ob hf
 refine x9 (a0n (b6f _ _ er4) rfl .r rfl)<|l7 (.bool E) rfl<|?_
 rcases oi hf with ⟨c5,hf⟩ | ⟨c5,hf⟩
 ·refine a1g (s:=7) (b:=true) rfl c5<|s_on rfl<|l7 (.str B) rfl<|s_on rfl<|?_
  obtain ⟨D,er7,hf⟩:=ob hf
  refine x9 (a0n (b6f _ _ er7) rfl .r rfl)<|s_on rfl<|x8 (.bool (!D)) rfl tr rfl<|x8 (.bool (!D)) rfl tr rfl<|l7 (.bool (!D)) rfl<|?_;refine s_g (v:=(!D)) (.str A) rfl (fun hv => by (try simp only [y7 hv]);exact ⟨rfl,tr,rfl⟩) ?_;refine s_g (v:=(!D)) (.str B) rfl (fun hv => by (try simp only [y7 hv]);exact ⟨rfl,tr,rfl⟩) ?_;refine s_g (v:=(!D)) (.bool (Op.bytesLess A B)) rfl (fun hv => by (try simp only [y7 hv]);exact ⟨rfl,tr,rfl⟩) ?_;refine a3c (x:=true) (y:=(Op.bytesLess A B)) rfl (fun hv => by (try simp only [y7 hv]);rfl) (fun hv => by (try simp only [y7 hv]);rfl) ?_;refine l7 (.bool (bif (!D) then true else (Op.bytesLess A B))) rfl ?_
  refine dk<|a0e<|?_;obtain rfl:=os hf;exact a0g ⟨tr,tr⟩ rfl .r
 ·refine a1g (s:=7) (b:=false) rfl (bf c5)<|a0d rfl rfl<|a0d rfl rfl<|a0d rfl rfl<|x8 (.bool false) rfl tr rfl<|l7 (.bool false) rfl<|s_on rfl<|l7 (.str A) rfl<|s_on rfl<|l7 (.str B) rfl<|s_on rfl<|x8 (.bool (Op.bytesLess A B)) rfl tr rfl<|x8 (.bool (Op.bytesLess A B)) rfl tr rfl<|l7 (.bool (Op.bytesLess A B)) rfl<|dk<|a0e<|?_;obtain rfl:=os hf;exact a0g ⟨tr,tr⟩ rfl .r

/- slices.insertionSortOrdered[string] -/
def d9h:a0m :=
 (.seq (.reg (tm 8 (.t 1) (tq 9 (.bin .add (.t 8) (.c (.int .i64 1))) (tm 6 (.t 9) .done))))
 (.block 0 (.loop (.seq (.seq (.reg (tm 10 (.t 6) (tm 11 (.t 2) (tq 12 (.bin .lss (.t 10) (.t 11)) .done))))
 (.cond (.t 12) .skip
 (.exit 0)))
 (.seq (.block 1 (.seq (.reg (tm 15 (.t 6) (tm 7 (.t 15) .done)))
 (.block 2 (.loop (.seq (.seq (.reg (tm 16 (.t 7) (tm 17 (.t 1) (tq 18 (.bin .gtr (.t 16) (.t 17)) (tm 19 (.t 18) (tg 20 19 true (.mov (.t 0)) (tg 21 19 true (.mov (.t 7)) (tg 22 19 true (.iaddr 1 (.t 20) (.t 21)) (tg 23 19 true (.load 1 false (.t 22)) (tg 24 19 true (.mov (.t 0)) (tg 25 19 true (.mov (.t 7)) (tg 26 19 true (.bin .sub (.t 25) (.c (.int .i64 1))) (tg 27 19 true (.iaddr 1 (.t 24) (.t 26)) (tg 28 19 true (.load 1 false (.t 27)) (.l ⟨(some 29),(some (19,true)),.call 341 [(.t 23),(.t 28)]⟩ []
 (tq 30 (.pick (.t 19) (.t 29) (.c (.bool false))) .done) .non)))))))))))))))
 (.cut (.cond (.t 30) .skip
 (.exit 2))))
 (.seq (.block 3 (.reg (tm 33 (.t 0) (tm 34 (.t 7) (tm 35 (.t 0) (tm 36 (.t 7) (tq 37 (.bin .sub (.t 36) (.c (.int .i64 1))) (tm 38 (.t 0) (tm 39 (.t 7) (tq 40 (.bin .sub (.t 39) (.c (.int .i64 1))) (tq 41 (.iaddr 1 (.t 38) (.t 40)) (tq 42 (.load 1 false (.t 41)) (tm 43 (.t 0) (tm 44 (.t 7) (tq 45 (.iaddr 1 (.t 43) (.t 44)) (tq 46 (.load 1 false (.t 45)) (tq 47 (.iaddr 1 (.t 33) (.t 34)) (.l ⟨none,none,.store 1 (.t 47) (.t 42)⟩ []
 (tq 48 (.iaddr 1 (.t 35) (.t 37)) (.l ⟨none,none,.store 1 (.t 48) (.t 46)⟩ []
 .done .non)) .non))))))))))))))))))
 (.reg (tm 31 (.t 7) (tq 32 (.bin .sub (.t 31) (.c (.int .i64 1))) (tm 7 (.t 32) .done))))))))))
 (.cut (.reg (tm 13 (.t 6) (tq 14 (.bin .add (.t 13) (.c (.int .i64 1))) (tm 6 (.t 14) .done))))))))))
theorem e3g:a1b Tryz.prog Tryz.f335 = some (d9h.erase,[],49):=by kernel_rfl
def a1a (E:Int):Nat → Int → (List Str) → Option (List Str)
  | 0,_,_ => none
  | k + 1,A,B =>
    ((if (decide (A > E)) then
    if (0:Int) ≤ A ∧ A < (B.length:Int) then
    (B[(0 + A.toNat)]?).bind fun N =>
    if (0:Int) ≤ w64 (A - 1) ∧ w64 (A - 1) < (B.length:Int) then
    (B[(0 + (w64 (A - 1)).toNat)]?).bind fun O =>
    (cmp_Less_string N O).bind fun P =>
    some P
    else none
    else none
    else
    some false:Option Bool)).bind fun M =>
    if M then
    if (0:Int) ≤ w64 (A - 1) ∧ w64 (A - 1) < (B.length:Int) then
    (B[(0 + (w64 (A - 1)).toNat)]?).bind fun K =>
    if (0:Int) ≤ A ∧ A < (B.length:Int) then
    (B[(0 + A.toNat)]?).bind fun L =>
    if (0:Int) ≤ A ∧ A < (B.length:Int) then
    if (0:Int) ≤ w64 (A - 1) ∧ w64 (A - 1) < (B.length:Int) then
    ((B.set (0 + A.toNat) K)[(0 + (w64 (A - 1)).toNat)]?).bind fun R =>
    a1a E k (w64 (A - 1)) ((B.set (0 + A.toNat) K).set (0 + (w64 (A - 1)).toNat) L)
    else none
    else none
    else none
    else none
    else
    some B

def a0u (H:Int) (E:Int):Nat → Int → (List Str) → Option (List Str)
  | 0,_,_ => none
  | k + 1,D,F =>
    if (decide (D < H)) then
    (a1a E FUEL D F).bind fun G =>
    a0u H E k (w64 (D + 1)) G
    else
    some F

def a2p (J:(List Str)) (E:Int) (H:Int):Option (List Str) :=
    a0u H E FUEL (w64 (E + 1)) J
theorem a9p (J:(List Str)) (E:Int) (H:Int) (r:(List Str)) (hf:a2p J E H = some r):a0v Tryz.prog true 335 [(.own 0 0 J.length),(.I E),(.I H)] [.row 1 (J.map AV.str)] (.tup []) [.row 1 (r.map AV.str)]:=by
 refine a0v.of_awp mixed Tryz.func335 e3g nle ?_;rw [a0l];unfold a2p at hf;unfold d9h;refine (show awp Tryz.prog true 1 _ (ofL [(0,(.own 0 0 J.length)),(1,(.I E)),(2,(.I H))]) [.row 1 (J.map AV.str)] _ from ?_);refine sr<|l7 (.I E) rfl<|x8 (.I (w64 (E + 1))) rfl rfl rfl<|l7 (.I (w64 (E + 1))) rfl<|dk<|?_;refine a1f (X:={q:(Nat × Int × (List Str)) // a0u H E q.1 q.2.1 q.2.2 = some r}) (fun q => ([(0,(.own 0 0 q.1.2.2.length)),(1,(.I E)),(2,(.I H)),(6,(.I q.1.2.1))],[.row 1 (q.1.2.2.map AV.str)])) (fun q => q.1.1) ⟨(FUEL,w64 (E + 1),J),hf⟩ ⟨[],[0],_,_,rfl,rfl,⟨.r,⟨.r,⟨.r,⟨.r,tr⟩⟩⟩⟩,.r⟩ ?_
 rintro ⟨⟨k,D,F⟩,hc1⟩
 have hc1:a0u H E k D F = some r:=hc1
 refine (show awp Tryz.prog true 1 _ (ofL [(0,(.own 0 0 F.length)),(1,(.I E)),(2,(.I H)),(6,(.I D))]) [.row 1 (F.map AV.str)] _ from ?_)
 rcases k with _ | k
 ·rw [a0u.eq_1] at hc1
  cases hc1
 ·rw [a0u.eq_2] at hc1;refine o7<|sr<|l7 (.I D) rfl<|l7 (.I H) rfl<|x8 (.bool (decide (D < H))) rfl rfl rfl<|dk<|?_
  rcases oi hc1 with ⟨c799,hc1⟩ | ⟨c799,hc1⟩
  ·refine y8 rfl c799<|a0j<|a0i<|o7<|a2x<|sr<|l7 (.I D) rfl<|l7 (.I D) rfl<|dk<|?_
   obtain ⟨G,hb1,hc1⟩:=ob hc1
   refine e2o ([(0,(.own 0 0 G.length)),(1,(.I E)),(2,(.I H)),(6,(.I D))],[.row 1 (G.map AV.str)]) ?_ ?_
   ·refine a1f (X:={q:(Nat × Int × (List Str)) // a1a E q.1 q.2.1 q.2.2 = some G}) (fun q => ([(0,(.own 0 0 q.1.2.2.length)),(1,(.I E)),(2,(.I H)),(6,(.I D)),(7,(.I q.1.2.1))],[.row 1 (q.1.2.2.map AV.str)])) (fun q => q.1.1) ⟨(FUEL,D,F),hb1⟩ ⟨[],[0],_,_,rfl,rfl,⟨.r,⟨.r,⟨.r,⟨.r,⟨.r,tr⟩⟩⟩⟩⟩,.r⟩ ?_
    rintro ⟨⟨k,A,B⟩,hc1⟩
    have hc1:a1a E k A B = some G:=hc1
    refine (show awp Tryz.prog true 1 _ (ofL [(0,(.own 0 0 B.length)),(1,(.I E)),(2,(.I H)),(6,(.I D)),(7,(.I A))]) [.row 1 (B.map AV.str)] _ from ?_)
    rcases k with _ | k
    ·rw [a1a.eq_1] at hc1
     cases hc1
    ·rw [a1a.eq_2] at hc1;refine o7<|o7<|?_
     obtain ⟨M,hb2,hc1⟩:=ob hc1
     refine a1s ([(0,(.own 0 0 B.length)),(1,(.I E)),(2,(.I H)),(6,(.I D)),(7,(.I A)),(30,(.bool M))],[.row 1 (B.map AV.str)]) ?_ ?_
     ·refine a0s<|l7 (.I A) rfl<|l7 (.I E) rfl<|x8 (.bool (decide (A > E))) rfl rfl rfl<|l7 (.bool (decide (A > E))) rfl<|?_
      rcases oi hb2 with ⟨c910,hb2⟩ | ⟨c910,hb2⟩
      ·refine a1g (s:=19) (b:=true) rfl c910<|s_on rfl<|l7 (.own 0 0 B.length) rfl<|s_on rfl<|l7 (.I A) rfl<|s_on rfl<|?_
       obtain ⟨g911,hb2⟩:=og hb2
       refine x9 (a2b rfl rfl g911.1 g911.2 rfl rfl)<|s_on rfl<|?_
       obtain ⟨N,ex913,hb2⟩:=ob hb2
       refine x9 (a7k (enc:=AV.str) (v:=(.str N)) rfl rfl ex913 ⟨rfl,rfl⟩ rfl)<|s_on rfl<|l7 (.own 0 0 B.length) rfl<|s_on rfl<|l7 (.I A) rfl<|s_on rfl<|x8 (.I (w64 (A - 1))) rfl rfl rfl<|s_on rfl<|?_
       obtain ⟨g914,hb2⟩:=og hb2
       refine x9 (a2b rfl rfl g914.1 g914.2 rfl rfl)<|s_on rfl<|?_
       obtain ⟨O,ex916,hb2⟩:=ob hb2
       refine x9 (a7k (enc:=AV.str) (v:=(.str O)) rfl rfl ex916 ⟨rfl,rfl⟩ rfl)<|d2b rfl<|?_
       obtain ⟨P,er918,hb2⟩:=ob hb2
       refine a0w (a0n (c3i _ _ _ er918) rfl .r rfl) a6n tr<|x8 (.bool P) rfl tr rfl<|a0h<|?_;obtain rfl:=os hb2;exact ⟨[],[0],_,_,rfl,rfl,⟨.r,⟨.r,⟨.r,⟨.r,⟨.r,⟨.r,tr⟩⟩⟩⟩⟩⟩,.r⟩
      ·refine a1g (s:=19) (b:=false) rfl (bf c910)<|a0d rfl rfl<|a0d rfl rfl<|a0d rfl rfl<|a0d rfl rfl<|a0d rfl rfl<|a0d rfl rfl<|a0d rfl rfl<|a0d rfl rfl<|a0d rfl rfl<|c4n rfl rfl tr<|x8 (.bool false) rfl tr rfl<|a0h<|?_;obtain rfl:=os hb2;exact ⟨[],[0],_,_,rfl,rfl,⟨.r,⟨.r,⟨.r,⟨.r,⟨.r,⟨.r,tr⟩⟩⟩⟩⟩⟩,.r⟩
     ·rcases oi hc1 with ⟨c919,hc1⟩ | ⟨c919,hc1⟩
      ·refine y8 rfl c919<|a0j<|a0i<|o7<|a2x<|a0s<|l7 (.own 0 0 B.length) rfl<|l7 (.I A) rfl<|l7 (.own 0 0 B.length) rfl<|l7 (.I A) rfl<|x8 (.I (w64 (A - 1))) rfl rfl rfl<|l7 (.own 0 0 B.length) rfl<|l7 (.I A) rfl<|x8 (.I (w64 (A - 1))) rfl rfl rfl<|?_
       obtain ⟨g920,hc1⟩:=og hc1
       refine x9 (a2b rfl rfl g920.1 g920.2 rfl rfl) ?_
       obtain ⟨K,ex922,hc1⟩:=ob hc1
       refine x9 (a7k (enc:=AV.str) (v:=(.str K)) rfl rfl ex922 ⟨rfl,rfl⟩ rfl)<|l7 (.own 0 0 B.length) rfl<|l7 (.I A) rfl<|?_
       obtain ⟨g923,hc1⟩:=og hc1
       refine x9 (a2b rfl rfl g923.1 g923.2 rfl rfl) ?_
       obtain ⟨L,ex925,hc1⟩:=ob hc1
       refine x9 (a7k (enc:=AV.str) (v:=(.str L)) rfl rfl ex925 ⟨rfl,rfl⟩ rfl) ?_
       obtain ⟨g926,hc1⟩:=og hc1
       refine x9 (a2b rfl rfl g926.1 g926.2 rfl rfl) ?_;refine a4r (a6o (v':=(.str K)) (e':=K) rfl rfl ex925 rfl rfl rfl (by decide) (fun _ => by decide) ⟨rfl,rfl,rfl⟩ .r rfl) tr tr ?_
       obtain ⟨g927,hc1⟩:=og hc1
       refine x9 (a2b rfl rfl g927.1 g927.2 rfl rfl) ?_
       obtain ⟨R,ex929,hc1⟩:=ob hc1
       refine a4r (a6o (v':=(.str L)) (e':=L) rfl rfl ex929 rfl rfl rfl (by decide) (fun _ => by decide) ⟨rfl,rfl,rfl⟩ .r rfl) tr tr ?_;refine a0h<|a2v<|a0i<|a0s<|l7 (.I A) rfl<|x8 (.I (w64 (A - 1))) rfl rfl rfl<|l7 (.I (w64 (A - 1))) rfl<|a0h<|?_;exact a1m ⟨(k,w64 (A - 1),(B.set (0 + A.toNat) K).set (0 + (w64 (A - 1)).toNat) L),hc1⟩ (Nat.lt_succ_self _) ⟨[],[0],_,_,rfl,rfl,⟨.of_eq (congrArg (AV.own _ 0) (by simp)),⟨.r,⟨.r,⟨.r,⟨.r,tr⟩⟩⟩⟩⟩,.r⟩
      ·refine y9 rfl (bf c919)<|a2l<|a2k<|a1t<|a2j<|?_;refine a2v ?_;obtain rfl:=os hc1;exact ⟨[],[0],_,_,rfl,rfl,⟨.r,⟨.r,⟨.r,⟨.r,tr⟩⟩⟩⟩,.r⟩
   ·refine a0s<|l7 (.I D) rfl<|x8 (.I (w64 (D + 1))) rfl rfl rfl<|l7 (.I (w64 (D + 1))) rfl<|a0h<|?_;exact a1m ⟨(k,w64 (D + 1),G),hc1⟩ (Nat.lt_succ_self _) ⟨[],[0],_,_,rfl,rfl,⟨.r,⟨.r,⟨.r,⟨.r,tr⟩⟩⟩⟩,.r⟩
  ·refine y9 rfl (bf c799)<|a2l<|a2k<|a1t<|a2j<|?_;obtain rfl:=os hc1;exact a7b [] [0] rfl tr rfl .r .r

/- slices.pdqsortOrdered[string] -/
def d9i:a0m :=
 (.seq (.reg (tm 8 (.c (.bool true)) .done))
 (.seq (.reg (tm 9 (.c (.bool true)) .done))
 (.block 0 (.loop (.block 1 (.seq (.reg (tm 19 (.t 2) (tm 20 (.t 1) (tq 21 (.bin .sub (.t 19) (.t 20)) (tm 10 (.t 21) .done)))))
 (.seq (.seq (.reg (tm 22 (.t 10) (tq 23 (.bin .leq (.t 22) (.c (.int .i64 12))) .done)))
 (.cond (.t 23) (.seq (.reg (tm 24 (.t 0) (tm 25 (.t 1) (tm 26 (.t 2) (tq 27 (.call 335 [(.t 24),(.t 25),(.t 26)]) .done)))))
 .ret)
 .skip))
 (.seq (.seq (.reg (tm 28 (.t 3) (tq 29 (.bin .eql (.t 28) (.c (.int .i64 0))) .done)))
 (.cond (.t 29) (.seq (.reg (tm 30 (.t 0) (tm 31 (.t 1) (tm 32 (.t 2) (tq 33 (.call 336 [(.t 30),(.t 31),(.t 32)]) .done)))))
 .ret)
 .skip))
 (.seq (.seq (.reg (tm 34 (.t 8) (tq 35 (.not (.t 34)) .done)))
 (.cond (.t 35) (.seq (.reg (tm 36 (.t 0) (tm 37 (.t 1) (tm 38 (.t 2) (tq 39 (.call 337 [(.t 36),(.t 37),(.t 38)]) .done)))))
 (.reg (tm 40 (.t 3) (tq 41 (.bin .sub (.t 40) (.c (.int .i64 1))) (tm 3 (.t 41) .done)))))
 .skip))
 (.seq (.reg (tm 43 (.t 0) (tm 44 (.t 1) (tm 45 (.t 2) (tq 46 (.call 338 [(.t 43),(.t 44),(.t 45)]) (tm 42 (.t 46) (tq 47 (.extract 0 (.t 42)) (tq 48 (.extract 1 (.t 42)) (tm 11 (.t 47) (tm 12 (.t 48) .done))))))))))
 (.seq (.seq (.reg (tm 49 (.t 12) (tq 50 (.bin .eql (.t 49) (.c (.int .i64 2))) .done)))
 (.cond (.t 50) (.seq (.reg (tm 51 (.t 0) (tm 52 (.t 1) (tm 53 (.t 2) (tq 54 (.call 339 [(.t 51),(.t 52),(.t 53)]) .done)))))
 (.seq (.reg (tm 55 (.t 2) (tq 56 (.bin .sub (.t 55) (.c (.int .i64 1))) (tm 57 (.t 11) (tm 58 (.t 1) (tq 59 (.bin .sub (.t 57) (.t 58)) (tq 60 (.bin .sub (.t 56) (.t 59)) (tm 11 (.t 60) .done))))))))
 (.reg (tm 12 (.c (.int .i64 1)) .done))))
 .skip))
 (.seq (.seq (.reg (tm 61 (.t 8) (tm 62 (.t 61) (tg 63 62 true (.mov (.t 9)) (tq 64 (.pick (.t 62) (.t 63) (.c (.bool false))) (tm 65 (.t 64) (tg 66 65 true (.mov (.t 12)) (tg 67 65 true (.bin .eql (.t 66) (.c (.int .i64 1))) (tq 68 (.pick (.t 65) (.t 67) (.c (.bool false))) .done)))))))))
 (.cond (.t 68) (.seq (.reg (tm 69 (.t 0) (tm 70 (.t 1) (tm 71 (.t 2) (tq 72 (.call 340 [(.t 69),(.t 70),(.t 71)]) .done)))))
 (.cond (.t 72) .ret
 .skip))
 .skip))
 (.seq (.seq (.reg (tm 73 (.t 1) (tq 74 (.bin .gtr (.t 73) (.c (.int .i64 0))) (tm 75 (.t 74) (tg 76 75 true (.mov (.t 0)) (tg 77 75 true (.mov (.t 1)) (tg 78 75 true (.bin .sub (.t 77) (.c (.int .i64 1))) (tg 79 75 true (.iaddr 1 (.t 76) (.t 78)) (tg 80 75 true (.load 1 false (.t 79)) (tg 81 75 true (.mov (.t 0)) (tg 82 75 true (.mov (.t 11)) (tg 83 75 true (.iaddr 1 (.t 81) (.t 82)) (tg 84 75 true (.load 1 false (.t 83)) (.l ⟨(some 85),(some (75,true)),.call 341 [(.t 80),(.t 84)]⟩ []
 (tg 86 75 true (.not (.t 85)) (tq 87 (.pick (.t 75) (.t 86) (.c (.bool false))) .done)) .non))))))))))))))
 (.cond (.t 87) (.seq (.reg (tm 88 (.t 0) (tm 89 (.t 1) (tm 90 (.t 2) (tm 91 (.t 11) (tq 92 (.call 342 [(.t 88),(.t 89),(.t 90),(.t 91)]) (tm 13 (.t 92) .done)))))))
 (.seq (.reg (tm 93 (.t 13) (tm 1 (.t 93) .done)))
 (.exit 1)))
 .skip))
 (.seq (.reg (tm 95 (.t 0) (tm 96 (.t 1) (tm 97 (.t 2) (tm 98 (.t 11) (tq 99 (.call 343 [(.t 95),(.t 96),(.t 97),(.t 98)]) (tm 94 (.t 99) (tq 100 (.extract 0 (.t 94)) (tq 101 (.extract 1 (.t 94)) (tm 14 (.t 100) (tm 15 (.t 101) .done)))))))))))
 (.seq (.reg (tm 102 (.t 15) (tm 9 (.t 102) .done)))
 (.seq (.reg (tm 103 (.t 14) (tm 104 (.t 1) (tq 105 (.bin .sub (.t 103) (.t 104)) (tm 106 (.t 2) (tm 107 (.t 14) (tq 108 (.bin .sub (.t 106) (.t 107)) (tm 16 (.t 105) (tm 17 (.t 108) .done)))))))))
 (.seq (.reg (tm 109 (.t 10) (tq 110 (.bin .quo (.t 109) (.c (.int .i64 8))) (tm 18 (.t 110) .done))))
 (.seq (.reg (tm 111 (.t 16) (tm 112 (.t 17) (tq 113 (.bin .lss (.t 111) (.t 112)) .done))))
 (.cond (.t 113) (.seq (.reg (tm 114 (.t 16) (tm 115 (.t 18) (tq 116 (.bin .geq (.t 114) (.t 115)) (tm 8 (.t 116) .done)))))
 (.seq (.reg (tm 117 (.t 0) (tm 118 (.t 1) (tm 119 (.t 14) (tm 120 (.t 3) (tq 121 (.call 287 [(.t 117),(.t 118),(.t 119),(.t 120)]) .done))))))
 (.reg (tm 122 (.t 14) (tq 123 (.bin .add (.t 122) (.c (.int .i64 1))) (tm 1 (.t 123) .done))))))
 (.seq (.reg (tm 124 (.t 17) (tm 125 (.t 18) (tq 126 (.bin .geq (.t 124) (.t 125)) (tm 8 (.t 126) .done)))))
 (.seq (.reg (tm 127 (.t 0) (tm 128 (.t 14) (tq 129 (.bin .add (.t 128) (.c (.int .i64 1))) (tm 130 (.t 2) (tm 131 (.t 3) (tq 132 (.call 287 [(.t 127),(.t 129),(.t 130),(.t 131)]) .done)))))))
 (.reg (tm 133 (.t 14) (tm 2 (.t 133) .done))))))))))))))))))))))))
theorem e3h:a1b Tryz.prog Tryz.f287 = some (d9i.erase,[],134):=by kernel_rfl
def a1w (D:Int) (E:Int) (A:(List Str)):Nat → Option (List Str)
  | 0 => none
  | k + 1 =>
    if (decide (w64 (D - E) ≤ 12)) then
    (a2p A E D).bind fun F =>
    some F
    else
    none

def a3r (rec:((List Str) → Int → Int → Int → Option (List Str))) (A:(List Str)) (E:Int) (D:Int) (B:Int):Option (List Str) :=
    a1w D E A FUEL 
theorem b1d (rec:((List Str) → Int → Int → Int → Option (List Str))) (hrec:∀ a0 a1 a2 a3 r,rec a0 a1 a2 a3 = some r → a0v Tryz.prog true 287 [(.own 0 0 a0.length),(.I a1),(.I a2),(.I a3)] [.row 1 (a0.map AV.str)] (.tup []) [.row 1 (r.map AV.str)]) (A:(List Str)) (E:Int) (D:Int) (B:Int) (r:(List Str)) (hf:a3r rec A E D B = some r):a0v Tryz.prog true 287 [(.own 0 0 A.length),(.I E),(.I D),(.I B)] [.row 1 (A.map AV.str)] (.tup []) [.row 1 (r.map AV.str)]:=by
 refine a0v.of_awp mixed Tryz.func287 e3h nle ?_;rw [a0l];unfold a3r at hf;unfold d9i;refine (show awp Tryz.prog true 1 _ (ofL [(0,(.own 0 0 A.length)),(1,(.I E)),(2,(.I D)),(3,(.I B))]) [.row 1 (A.map AV.str)] _ from ?_);refine sr<|l7 (.bool true) rfl<|dk<|sr<|l7 (.bool true) rfl<|dk<|?_;refine a1f (X:={q:Nat // a1w D E A q = some r}) (fun q => ([(0,(.own 0 0 A.length)),(1,(.I E)),(2,(.I D)),(3,(.I B)),(8,(.bool true)),(9,(.bool true))],[.row 1 (A.map AV.str)])) (fun q => q.1) ⟨FUEL,hf⟩ ⟨[],[0],_,_,rfl,rfl,⟨.r,⟨.r,⟨.r,⟨.r,⟨.r,⟨.r,tr⟩⟩⟩⟩⟩⟩,.r⟩ ?_
 rintro ⟨k,hc1⟩
 have hc1:a1w D E A k  = some r:=hc1
 refine (show awp Tryz.prog true 1 _ (ofL [(0,(.own 0 0 A.length)),(1,(.I E)),(2,(.I D)),(3,(.I B)),(8,(.bool true)),(9,(.bool true))]) [.row 1 (A.map AV.str)] _ from ?_)
 rcases k with _ | k
 ·rw [a1w.eq_1] at hc1
  cases hc1
 ·rw [a1w.eq_2] at hc1;refine a2x<|sr<|l7 (.I D) rfl<|l7 (.I E) rfl<|x8 (.I (w64 (D - E))) rfl rfl rfl<|l7 (.I (w64 (D - E))) rfl<|dk<|o7<|sr<|l7 (.I (w64 (D - E))) rfl<|x8 (.bool (decide (w64 (D - E) ≤ 12))) rfl rfl rfl<|dk<|?_
  rcases oi hc1 with ⟨c14,hc1⟩ | ⟨c14,hc1⟩
  ·refine y8 rfl c14<|sr<|?_
   obtain ⟨F,er16,hc1⟩:=ob hc1
   refine l7 (.own 0 0 A.length) rfl<|l7 (.I E) rfl<|l7 (.I D) rfl<|?_;refine a0y (b2n (v:=(.tup [])) (h2:=[.row 1 (F.map AV.str)]) [] [0] (fun _ => rfl) (a9p _ _ _ _ er16) rfl .r .r rfl rfl) fun hl17 => ?_;refine dk<|a0e<|?_;obtain rfl:=os hc1;exact a7b [] [0] rfl tr rfl .r .r
  ·cases hc1
def a2d:Nat → (List Str) → Int → Int → Int → Option (List Str)
 | 0,_,_,_,_ => none
 | k + 1,A,E,D,B => a3r (a2d k) A E D B
theorem a7s:∀ (k:Nat) (A:(List Str)) (E:Int) (D:Int) (B:Int) (r:(List Str)),a2d k A E D B = some r → a0v Tryz.prog true 287 [(.own 0 0 A.length),(.I E),(.I D),(.I B)] [.row 1 (A.map AV.str)] (.tup []) [.row 1 (r.map AV.str)]
 | 0,A,E,D,B,r,h => by rw [a2d.eq_1] at h;cases h
 | k + 1,A,E,D,B,r,h => by
  rw [a2d.eq_2] at h;exact b1d _ (a7s k) A E D B r h

/- slices.Sort[[]string,string] -/
def d9j:a0m :=
 (.seq (.reg (tm 3 (.t 0) (tq 4 (.len (.t 3)) (tm 2 (.t 4) .done))))
 (.reg (tm 5 (.t 0) (tm 6 (.t 2) (tm 7 (.t 2) (tq 8 (.convI .u64 (.t 7)) (tq 9 (.call 288 [(.t 8)]) (tq 10 (.call 287 [(.t 5),(.c (.int .i64 0)),(.t 6),(.t 9)]) .done))))))))
theorem e3i:a1b Tryz.prog Tryz.f198 = some (d9j.erase,[],11):=by kernel_rfl
def a3q (A:(List Str)):Option (List Str) :=
    (b1c (IntKind.u64.wrap (A.length:Int))).bind fun D =>
    (a2d FUEL A 0 (A.length:Int) D).bind fun B =>
    some B
theorem b3q (A:(List Str)) (r:(List Str)) (hf:a3q A = some r):a0v Tryz.prog true 198 [(.own 0 0 A.length)] [.row 1 (A.map AV.str)] (.tup []) [.row 1 (r.map AV.str)]:=by
  refine a0v.of_awp mixed Tryz.func198 e3i nle ?_
  rw [a0l]
  unfold a3q at hf
  unfold d9j
  refine (show awp Tryz.prog true 1 _ (ofL [(0,(.own 0 0 A.length))]) [.row 1 (A.map AV.str)] _ from ?_)
  refine o7 ?_
  refine a0s ?_
  refine x9 (a3p (.own 0 0 A.length) rfl) ?_
  refine a0y (a7n rfl rfl) fun hl2 => ?_
  refine x9 (a3p (.I (A.length:Int)) rfl) ?_
  refine a0h ?_
  refine a0i ?_
  refine a0s ?_
  obtain ⟨D,er4,hf⟩:=ob hf
  obtain ⟨B,er6,hf⟩:=ob hf
  refine x9 (a3p (.own 0 0 A.length) rfl) ?_
  refine x9 (a3p (.I (A.length:Int)) rfl) ?_
  refine x9 (a3p (.I (A.length:Int)) rfl) ?_
  refine x9 (o_q (.int .u64 (IntKind.u64.wrap (A.length:Int))) rfl tr rfl) ?_
  refine x9 (a0n (c6u _ _ er4) rfl .r rfl) ?_
  refine a0y (b2n (v:=(.tup [])) (h2:=[.row 1 (B.map AV.str)]) [] [0] (fun _ => rfl) (a7s FUEL _ _ _ _ _ er6) rfl .r .r rfl rfl) fun hl7 => ?_
  refine a0h ?_
  obtain rfl:=os hf
  exact a7b [] [0] rfl tr rfl .r .r

/- slices.Compact[[]string,string] -/
def d9k:a0m :=
 (.seq (.reg (tm 2 (.c .nil) .done))
 (.seq (.seq (.reg (tm 6 (.t 0) (tq 7 (.len (.t 6)) (tq 8 (.bin .lss (.t 7) (.c (.int .i64 2))) .done))))
 (.cond (.t 8) (.seq (.reg (tm 9 (.t 0) (tm 2 (.t 9) .done)))
 .ret)
 .skip))
 (.seq (.seq (.reg (tm 3 (.c (.int .i64 1)) .done))
 (.block 0 (.loop (.seq (.seq (.reg (tm 10 (.t 3) (tm 11 (.t 0) (tq 12 (.len (.t 11)) (tq 13 (.bin .lss (.t 10) (.t 12)) .done)))))
 (.cond (.t 13) .skip
 (.exit 0)))
 (.seq (.block 1 (.seq (.reg (tm 16 (.t 0) (tm 17 (.t 3) (tq 18 (.iaddr 1 (.t 16) (.t 17)) (tq 19 (.load 1 false (.t 18)) (tm 20 (.t 0) (tm 21 (.t 3) (tq 22 (.bin .sub (.t 21) (.c (.int .i64 1))) (tq 23 (.iaddr 1 (.t 20) (.t 22)) (tq 24 (.load 1 false (.t 23)) (tq 25 (.bin .eql (.t 19) (.t 24)) .done)))))))))))
 (.cond (.t 25) (.seq (.reg (tm 26 (.t 0) (tm 27 (.t 3) (tq 28 (.slice 1 (.t 26) (some (.t 27)) none) (tm 4 (.t 28) .done)))))
 (.seq (.seq (.reg (tm 5 (.c (.int .i64 1)) .done))
 (.block 2 (.loop (.seq (.seq (.reg (tm 29 (.t 5) (tm 30 (.t 4) (tq 31 (.len (.t 30)) (tq 32 (.bin .lss (.t 29) (.t 31)) .done)))))
 (.cond (.t 32) .skip
 (.exit 2)))
 (.seq (.block 3 (.seq (.reg (tm 35 (.t 4) (tm 36 (.t 5) (tq 37 (.iaddr 1 (.t 35) (.t 36)) (tq 38 (.load 1 false (.t 37)) (tm 39 (.t 4) (tm 40 (.t 5) (tq 41 (.bin .sub (.t 40) (.c (.int .i64 1))) (tq 42 (.iaddr 1 (.t 39) (.t 41)) (tq 43 (.load 1 false (.t 42)) (tq 44 (.bin .neq (.t 38) (.t 43)) .done)))))))))))
 (.cond (.t 44) (.seq (.reg (tm 45 (.t 0) (tm 46 (.t 3) (tm 47 (.t 4) (tm 48 (.t 5) (tq 49 (.iaddr 1 (.t 47) (.t 48)) (tq 50 (.load 1 false (.t 49)) (tq 51 (.iaddr 1 (.t 45) (.t 46)) (.q ⟨none,none,.store 1 (.t 51) (.t 50)⟩
 .done)))))))))
 (.reg (tm 52 (.t 3) (tq 53 (.bin .add (.t 52) (.c (.int .i64 1))) (tm 3 (.t 53) .done)))))
 .skip)))
 (.reg (tm 33 (.t 5) (tq 34 (.bin .add (.t 33) (.c (.int .i64 1))) (tm 5 (.t 34) .done)))))))))
 (.cut (.seq (.reg (tm 54 (.t 0) (tm 55 (.t 3) (tq 56 (.slice 1 (.t 54) (some (.t 55)) none) (.q ⟨none,none,.clr 1 (.str []) (.t 56)⟩
 .done)))))
 (.seq (.reg (tm 57 (.t 0) (tm 58 (.t 3) (tq 59 (.slice 1 (.t 57) none (some (.t 58))) (tm 2 (.t 59) .done)))))
 .ret)))))
 .skip)))
 (.reg (tm 14 (.t 3) (tq 15 (.bin .add (.t 14) (.c (.int .i64 1))) (tm 3 (.t 15) .done)))))))))
 (.cut (.seq (.reg (tm 60 (.t 0) (tm 2 (.t 60) .done)))
 .ret)))))
theorem e3j:a1b Tryz.prog Tryz.f199 = some (d9k.erase,[.mov (.t 2)],61):=by kernel_rfl
def a0x (B:(List Str)) (A:Nat):Nat → Int → Int → (List Str) → Option (Int × (List Str))
  | 0,_,_,_ => none
  | k + 1,E,D,G =>
    if (decide (D < (((B.length - A):Nat):Int))) then
    if (0:Int) ≤ D ∧ D < (((B.length - A):Nat):Int) then
    (G[(A + D.toNat)]?).bind fun J =>
    if (0:Int) ≤ w64 (D - 1) ∧ w64 (D - 1) < (((B.length - A):Nat):Int) then
    (G[(A + (w64 (D - 1)).toNat)]?).bind fun K =>
    if (!(J == K)) then
    if (0:Int) ≤ D ∧ D < (((B.length - A):Nat):Int) then
    if (0:Int) ≤ E ∧ E < (G.length:Int) then
    (G[(0 + E.toNat)]?).bind fun N =>
    a0x B A k (w64 (E + 1)) (w64 (D + 1)) (G.set (0 + E.toNat) J)
    else none
    else none
    else
    a0x B A k E (w64 (D + 1)) G
    else none
    else none
    else
    some (E,G)

def a1c (B:(List Str)):List Str → Nat → Option (Fl (List Str) Unit)
  | [],A =>
    some (.go ())
  | L :: xs,A =>
    if A < B.length then
    if (0:Int) ≤ w64 ((A:Int) - 1) ∧ w64 ((A:Int) - 1) < (B.length:Int) then
    (B[(0 + (w64 ((A:Int) - 1)).toNat)]?).bind fun M =>
    if (L == M) then
    if (0:Int) ≤ (A:Int) ∧ (A:Int) ≤ (B.length:Int) then
    (a0x B A FUEL (A:Int) 1 B).bind fun p457 =>
    (match p457 with
    | (F,H) =>
    if (0:Int) ≤ F ∧ F ≤ (H.length:Int) then
    if (0:Int) ≤ F ∧ F ≤ (H.length:Int) then
    some (.ret ((H.take F.toNat ++ List.replicate (H.length - F.toNat) [] ++ H.drop (F.toNat + (H.length - F.toNat))).take F.toNat))
    else none
    else none)
    else none
    else
    a1c B xs (A + 1)
    else none
    else none

def a3e (B:(List Str)):Option (List Str) :=
    if (decide ((B.length:Int) < 2)) then
    some B
    else
    (a1c B (B.drop 1) 1).bind fun q => (match q with
    | .ret r => some r
    | .go _ =>
    some B)
theorem b2j (B:(List Str)) (r:(List Str)) (hf:a3e B = some r):a0v Tryz.prog true 199 [(.own 0 0 B.length)] [.row 1 (B.map AV.str)] (.own 1 0 r.length) [.dead,.row 1 (r.map AV.str)]:=by
 refine a0v.of_awp mixed Tryz.func199 e3j nle ?_;rw [a0l];unfold a3e at hf;unfold d9k;refine (show awp Tryz.prog true 1 _ (ofL [(0,(.own 0 0 B.length))]) [.row 1 (B.map AV.str)] _ from ?_);refine sr<|l7 .nil rfl<|dk<|o7<|sr<|l7 (.own 0 0 B.length) rfl<|a0y (a7n rfl rfl) fun hl2 => x8 (.bool (decide ((B.length:Int) < 2))) rfl rfl rfl<|dk<|?_
 rcases oi hf with ⟨c3,hf⟩ | ⟨c3,hf⟩
 ·refine y8 rfl c3<|sr<|l7 (.own 0 0 B.length) rfl<|l7 (.own 0 0 B.length) rfl<|dk<|a0e<|?_;obtain rfl:=os hf;exact a7b [.mv 0] [0,1] rfl ⟨tr,tr⟩ rfl .r .r
 ·refine y9 rfl (bf c3)<|a0j<|a0i<|o7<|sr<|l7 (.I 1) rfl<|dk<|?_
  obtain ⟨p352,hb1,hf⟩:=ob hf
  refine a3j (X:={q:Unit // p352 = .go q}) (fun q => ([(0,(.own 0 0 B.length))],[.row 1 (B.map AV.str)])) ?_ ?_
  ·refine a1f (X:={q:Nat // a1c B (B.drop q) q = some p352}) (fun q => ([(0,(.own 0 0 B.length)),(3,(.I (q.1:Int)))],[.row 1 (B.map AV.str)])) (fun q => B.length - q.1) ⟨1,hb1⟩ ⟨[],[0],_,_,rfl,rfl,⟨.r,⟨.r,tr⟩⟩,.r⟩ ?_
   rintro ⟨A,hc1⟩
   have hc1:a1c B (B.drop A) A = some p352:=hc1
   refine (show awp Tryz.prog true 1 _ (ofL [(0,(.own 0 0 B.length)),(3,(.I (A:Int)))]) [.row 1 (B.map AV.str)] _ from ?_)
   rcases a5n B A with ⟨hie355,hd358⟩ | ⟨hlt353,L,hx354,hd358⟩
   ·rw [hd358,a1c.eq_1] at hc1
    have hq357:=dlf hie355
    refine o7<|sr<|l7 (.I (A:Int)) rfl<|l7 (.own 0 0 B.length) rfl<|a0y (a7n rfl rfl) fun hl360 => x8 (.bool (decide ((A:Int) < (B.length:Int)))) rfl rfl rfl<|dk<|y9 rfl hq357<|a2l<|a2k<|a1t<|a2j<|?_;obtain rfl:=os hc1;exact a6i ⟨_,rfl⟩ ⟨[],[0],_,_,rfl,rfl,⟨.r,tr⟩,.r⟩
   ·rw [hd358,a1c.eq_2] at hc1
    have hq357:=dlt hlt353
    refine o7<|sr<|l7 (.I (A:Int)) rfl<|l7 (.own 0 0 B.length) rfl<|a0y (a7n rfl rfl) fun hl361 => x8 (.bool (decide ((A:Int) < (B.length:Int)))) rfl rfl rfl<|dk<|y8 rfl hq357<|a0j<|a0i<|o7<|a2x<|sr<|?_
    obtain ⟨g362,hc1⟩:=og hc1
    obtain ⟨g363,hc1⟩:=og hc1
    obtain ⟨M,ex365,hc1⟩:=ob hc1
    refine l7 (.own 0 0 B.length) rfl<|l7 (.I (A:Int)) rfl<|x9 (b1y rfl rfl g362 rfl rfl)<|x9 (a7k (enc:=AV.str) (v:=(.str L)) rfl rfl hx354 ⟨rfl,rfl⟩ rfl)<|l7 (.own 0 0 B.length) rfl<|l7 (.I (A:Int)) rfl<|x8 (.I (w64 ((A:Int) - 1))) rfl rfl rfl<|x9 (a2b rfl rfl g363.1 g363.2 rfl rfl)<|x9 (a7k (enc:=AV.str) (v:=(.str M)) rfl rfl ex365 ⟨rfl,rfl⟩ rfl)<|x8 (.bool (L == M)) rfl tr rfl<|dk<|?_
    rcases oi hc1 with ⟨c366,hc1⟩ | ⟨c366,hc1⟩
    ·refine y8 rfl c366<|sr<|?_
     obtain ⟨g367,hc1⟩:=og hc1
     refine l7 (.own 0 0 B.length) rfl<|l7 (.I (A:Int)) rfl<|x9 (c8r rfl rfl rfl g367.1 g367.2)<|l7 (.own 0 A (B.length - A)) rfl<|dk<|o7<|sr<|l7 (.I 1) rfl<|dk<|?_
     obtain ⟨p457,hb2,hc1⟩:=ob hc1
     refine a1s ([(0,(.own 0 0 p457.2.length)),(3,(.I p457.1))],[.row 1 (p457.2.map AV.str)]) ?_ ?_
     ·refine a1f (X:={q:(Nat × Int × Int × (List Str)) // a0x B A q.1 q.2.1 q.2.2.1 q.2.2.2 = some p457}) (fun q => ([(0,(.own 0 0 q.1.2.2.2.length)),(3,(.I q.1.2.1)),(4,(.own 0 A (B.length - A))),(5,(.I q.1.2.2.1))],[.row 1 (q.1.2.2.2.map AV.str)])) (fun q => q.1.1) ⟨(FUEL,(A:Int),1,B),hb2⟩ ⟨[],[0],_,_,rfl,rfl,⟨.r,⟨.r,⟨.r,⟨.r,tr⟩⟩⟩⟩,.r⟩ ?_
      rintro ⟨⟨k,E,D,G⟩,hc2⟩
      have hc2:a0x B A k E D G = some p457:=hc2
      refine (show awp Tryz.prog true 1 _ (ofL [(0,(.own 0 0 G.length)),(3,(.I E)),(4,(.own 0 A (B.length - A))),(5,(.I D))]) [.row 1 (G.map AV.str)] _ from ?_)
      rcases k with _ | k
      ·rw [a0x.eq_1] at hc2
       cases hc2
      ·rw [a0x.eq_2] at hc2;refine o7<|sr<|l7 (.I D) rfl<|l7 (.own 0 A (B.length - A)) rfl<|a0y (a7n rfl rfl) fun hl458 => x8 (.bool (decide (D < (((B.length - A):Nat):Int)))) rfl rfl rfl<|dk<|?_
       rcases oi hc2 with ⟨c459,hc2⟩ | ⟨c459,hc2⟩
       ·refine y8 rfl c459<|a0j<|a0i<|o7<|a2x<|sr<|?_
        obtain ⟨g460,hc2⟩:=og hc2
        obtain ⟨J,ex462,hc2⟩:=ob hc2
        obtain ⟨g463,hc2⟩:=og hc2
        obtain ⟨K,ex465,hc2⟩:=ob hc2
        refine l7 (.own 0 A (B.length - A)) rfl<|l7 (.I D) rfl<|x9 (a2b rfl rfl g460.1 g460.2 rfl rfl)<|x9 (a7k (enc:=AV.str) (v:=(.str J)) rfl rfl ex462 ⟨rfl,rfl⟩ rfl)<|l7 (.own 0 A (B.length - A)) rfl<|l7 (.I D) rfl<|x8 (.I (w64 (D - 1))) rfl rfl rfl<|x9 (a2b rfl rfl g463.1 g463.2 rfl rfl)<|x9 (a7k (enc:=AV.str) (v:=(.str K)) rfl rfl ex465 ⟨rfl,rfl⟩ rfl)<|x8 (.bool (!(J == K))) rfl tr rfl<|dk<|?_
        rcases oi hc2 with ⟨c466,hc2⟩ | ⟨c466,hc2⟩
        ·refine y8 rfl c466<|sr<|?_
         obtain ⟨g467,hc2⟩:=og hc2
         obtain ⟨g468,hc2⟩:=og hc2
         obtain ⟨N,ex470,hc2⟩:=ob hc2
         refine l7 (.own 0 0 G.length) rfl<|l7 (.I E) rfl<|l7 (.own 0 A (B.length - A)) rfl<|l7 (.I D) rfl<|x9 (a2b rfl rfl g467.1 g467.2 rfl rfl)<|x9 (a7k (enc:=AV.str) (v:=(.str J)) rfl rfl ex462 ⟨rfl,rfl⟩ rfl)<|x9 (a2b rfl rfl g468.1 g468.2 rfl rfl)<|?_;refine a1v (a6o (v':=(.str J)) (e':=J) rfl rfl ex470 rfl rfl rfl (by decide) (fun _ => by decide) ⟨rfl,rfl,rfl⟩ .r rfl) ?_;refine dk<|a0s<|l7 (.I E) rfl<|x8 (.I (w64 (E + 1))) rfl rfl rfl<|l7 (.I (w64 (E + 1))) rfl<|a0h<|a2v<|a0i<|a0s<|l7 (.I D) rfl<|?_
         refine x8 (.I (w64 (D + 1))) rfl rfl rfl<|l7 (.I (w64 (D + 1))) rfl<|a0h<|?_;exact a1m ⟨(k,w64 (E + 1),w64 (D + 1),G.set (0 + E.toNat) J),hc2⟩ (Nat.lt_succ_self _) ⟨[],[0],_,_,rfl,rfl,⟨.of_eq (congrArg (AV.own _ 0) (by simp)),⟨.r,⟨.r,⟨.r,tr⟩⟩⟩⟩,.r⟩
        ·refine y9 rfl (bf c466)<|a0j<|a2v<|a0i<|a0s<|l7 (.I D) rfl<|x8 (.I (w64 (D + 1))) rfl rfl rfl<|l7 (.I (w64 (D + 1))) rfl<|a0h<|?_;exact a1m ⟨(k,E,w64 (D + 1),G),hc2⟩ (Nat.lt_succ_self _) ⟨[],[0],_,_,rfl,rfl,⟨.r,⟨.r,⟨.r,⟨.r,tr⟩⟩⟩⟩,.r⟩
       ·refine y9 rfl (bf c459)<|a2l<|a2k<|a1t<|a2j<|?_;obtain rfl:=os hc2;exact ⟨[],[0],_,_,rfl,rfl,⟨.r,⟨.r,tr⟩⟩,.r⟩
     ·obtain ⟨F,H⟩:=p457
      refine sr<|?_
      obtain ⟨g471,hc1⟩:=og hc1
      refine l7 (.own 0 0 H.length) rfl<|l7 (.I F) rfl<|x9 (c8r rfl rfl rfl g471.1 g471.2)<|a1v (e7x (enc:=AV.str) (y:=[]) rfl rfl .r rfl)<|dk<|sr<|?_
      obtain ⟨g472,hc1⟩:=og hc1
      refine l7 (.own 0 0 H.length) rfl<|l7 (.I F) rfl<|x9 (d3r rfl rfl rfl g472.1 g472.2)<|l7 (.own 0 0 F.toNat) rfl<|dk<|a0e<|?_;obtain rfl:=os hc1;obtain rfl:=os hf;exact a7b [.trim 2] [0,1] rfl ⟨tr,tr⟩ rfl ((.cons .r (.cons ((LeO.tk (enc:=AV.str) (H.take F.toNat ++ List.replicate (H.length - F.toNat) [] ++ H.drop (F.toNat + (H.length - F.toNat))) _)) .nil))) (.of_eq (congrArg (AV.own _ 0) (by simp)))
    ·refine y9 rfl (bf c366)<|a0j<|a2v<|a0i<|a0s<|l7 (.I (A:Int)) rfl<|x8 (.I (w64 ((A:Int) + 1))) rfl rfl rfl<|l7 (.I (w64 ((A:Int) + 1))) rfl<|a0h<|?_;exact a1m ⟨(A + 1),hc1⟩ (mul hlt353) ⟨[],[0],_,_,rfl,rfl,⟨.r,⟨.of_eq (congrArg (AV.int _) (a1p hlt353 hl361)),tr⟩⟩,.r⟩
  ·rintro ⟨_,rfl⟩
   refine sr<|l7 (.own 0 0 B.length) rfl<|l7 (.own 0 0 B.length) rfl<|dk<|a0e<|?_;obtain rfl:=os hf;exact a7b [.mv 0] [0,1] rfl ⟨tr,tr⟩ rfl .r .r

/- impl.jsList -/
def d9l:a0m :=
 (.seq (.reg (tq 2 (.box 5 (.c (.agg [(.int .i64 0),(.int .i64 0),(.str []),.nil,.nil]))) .done))
 (.seq (.reg (tm 3 (.t 0) (tq 4 (.build [(.int .i64 0),(.int .i64 0),(.str []),.nil,.nil] [(0,1,(.c (.int .i64 4))),(4,1,(.t 3))]) (.q ⟨none,none,.store 5 (.t 2) (.t 4)⟩
 .done))))
 .ret))
theorem e3k:a1b Tryz.prog Tryz.f222 = some (d9l.erase,[.load 5 true (.t 2)],5):=by kernel_rfl
def a9z (A:(List o9)):Option o9 :=
    some (⟨4,0,[],[],A⟩:o9)
theorem b7n (A:(List o9)) (r:o9) (hf:a9z A = some r):a0v Tryz.prog ⟨true,true,false⟩ 222 [(.own 0 0 A.length)] [.row 5 (A.map l9)] (.agg [(.I r.Kind),(.I r.N),(.str r.T),(.own 1 0 r.Keys.length),(.own 2 0 r.Items.length)]) [.dead,.row 1 (r.Keys.map AV.str),.row 5 (r.Items.map l9)]:=by
 refine a0v.of_awp mixed Tryz.func222 e3k nle ?_;rw [a0l];unfold a9z at hf;unfold d9l;refine (show awp Tryz.prog ⟨true,true,false⟩ 1 _ (ofL [(0,(.own 0 0 A.length))]) [.row 5 (A.map l9)] _ from ?_);refine sr<|x9 (a1j (j:=1) (c:=(.agg [(.I 0),(.I 0),(.str []),.nil,.nil])) rfl tr rfl rfl)<|dk<|sr<|l7 (.own 0 0 A.length) rfl<|x8 (.agg [(.I 4),(.I 0),(.str []),.nil,(.own 0 0 A.length)]) rfl (.of ⟨⟨rfl,nle,tr⟩,⟨⟨rfl,nle,tr⟩,tr⟩⟩ tr) rfl<|a1v (a0f (v:=(.agg [(.I 4),(.I 0),(.str []),.nil,(.own 0 0 A.length)])) (y':=(.agg [(.I 4),(.I 0),(.str []),.nil,(.own 0 0 A.length)])) rfl rfl rfl tr ⟨rfl,nle⟩ ⟨⟨rfl,tr⟩,⟨⟨rfl,tr⟩,⟨⟨rfl,tr⟩,⟨⟨rfl,tr⟩,⟨⟨rfl,tr⟩,tr⟩⟩⟩⟩⟩ rfl)<|?_
 refine dk<|a0e<|?_;obtain rfl:=os hf;exact a7b [.nilC 1 3 1,.mv 0] [0,2,3] rfl ⟨.of nle tr,tr⟩ rfl .r .r

/- impl.datumJson -/
def c130:a0m :=
 (.seq (.reg (tq 2 (.box 5 (.c (.agg [(.int .i64 0),(.int .i64 0),(.str []),.nil,.nil]))) .done))
 (.seq (.reg (tq 6 (.bslice 5 []) (tm 3 (.t 6) .done)))
 (.seq (.seq (.reg (tm 7 (.t 0) (tq 8 (.len (.t 7)) (tm 9 (.c (.int .i64 0)) .done))))
 (.block 0 (.loop (.seq (.reg (tq 10 (.bin .lss (.t 9) (.t 8)) .done))
 (.seq (.cond (.t 10) .skip
 (.exit 0))
 (.seq (.block 1 (.seq (.reg (tq 11 (.iaddr 3 (.t 7) (.t 9)) (tq 12 (.load 3 true (.t 11)) (tq 5 (.box 3 (.c (.agg [(.int .i64 0),(.int .i64 0),(.str [])]))) (.q ⟨none,none,.store 3 (.t 5) (.t 12)⟩
 .done)))))
 (.reg (tm 13 (.t 3) (tq 14 (.load 3 true (.t 5)) (tq 15 (.call 136 [(.t 14)]) (tq 16 (.bslice 5 [(.t 15)]) (tq 17 (.append 5 80 (.t 13) (.t 16)) (tm 3 (.t 17) .done)))))))))
 (.reg (tq 18 (.bin .add (.t 9) (.c (.int .i64 1))) (tm 9 (.t 18) .done)))))))))
 (.cut (.seq (.seq (.reg (tm 19 (.t 3) (tq 20 (.len (.t 19)) (tq 21 (.bin .eql (.t 20) (.c (.int .i64 1))) .done))))
 (.cond (.t 21) (.seq (.rev (.reg (tm 22 (.t 3) (tq 23 (.iaddr 5 (.t 22) (.c (.int .i64 0))) (tq 24 (.load 5 true (.t 23)) (.q ⟨none,none,.store 5 (.t 2) (.t 24)⟩
 .done))))))
 .ret)
 .skip))
 (.seq (.reg (tq 25 (.call 220 [(.c (.str [115,101,116]))]) (tm 26 (.t 3) (tq 27 (.call 222 [(.t 26)]) (tq 28 (.bslice 5 [(.t 25),(.t 27)]) (tq 29 (.call 222 [(.t 28)]) (.q ⟨none,none,.store 5 (.t 2) (.t 29)⟩
 .done)))))))
 .ret))))))
theorem f2d:a1b Tryz.prog Tryz.f130 = some (c130.erase,[.load 5 true (.t 2)],30):=by kernel_rfl
def a2h :List a0k → (List o9) → Option (List o9)
  | [],A =>
    some A
  | J :: xs,A =>
    (a4x J).bind fun F =>
    if (A ++ [F]).length ≤ 2 ^ 30 then
    a2h xs  (A ++ [F])
    else none

def a5y (K:(List a0k)):Option o9 :=
    (a2h K []).bind fun B =>
    if ((B.length:Int) == 1) then
    ((B[0]?)).bind fun D =>
    if 0 < B.length then
    some D
    else none
    else
    (a8q [115,101,116]).bind fun G =>
    (a9z B).bind fun H =>
    (a9z [G,H]).bind fun E =>
    some E
theorem c4v (K:(List a0k)) (r:o9) (hf:a5y K = some r):a0a Tryz.prog 130 .fresh [(.lst 3 (K.map o6))] (l9 r):=by
 refine a0a.of_awp' (md:=⟨true,true,true⟩) (fun _ => rfl) (fun _ => rfl) (fun h => by cases h) mixed Tryz.func130 f2d nle ?_;rw [a0l];unfold a5y at hf;unfold c130;refine (show awp Tryz.prog ⟨true,true,true⟩ 0 _ (ofL [(0,(.lst 3 (K.map o6)))]) [] _ from ?_);refine sr<|x9 (a1j (j:=0) (c:=(.agg [(.I 0),(.I 0),(.str []),.nil,.nil])) rfl tr rfl rfl)<|dk<|sr<|?_;refine x9 (a0o (j:=1) (as':=[]) rfl (fun _ => by decide) tr .r rfl rfl rfl) ?_;refine l7 (.own 1 0 0) rfl<|dk<|o7<|sr<|l7 (.lst 3 (K.map o6)) rfl<|a0y (a1o (enc:=o6) rfl) fun hl2 => ?_
 refine l7 (.I 0) rfl<|dk<|?_
 obtain ⟨B,hb1,hf⟩:=ob hf
 refine a1s ([(2,(.ptr 0 0 0)),(3,(.own 1 0 B.length))],[.box 5 (.agg [(.I 0),(.I 0),(.str []),.nil,.nil]),.row 5 (B.map l9)]) ?_ ?_
 ·refine a1f (X:={q:(Nat × (List o9)) // a2h (K.drop q.1) q.2 = some B}) (fun q => ([(2,(.ptr 0 0 0)),(3,(.own 1 0 q.1.2.length)),(7,(.lst 3 (K.map o6))),(8,(.I (K.length:Int))),(9,(.I (q.1.1:Int)))],[.box 5 (.agg [(.I 0),(.I 0),(.str []),.nil,.nil]),.row 5 (q.1.2.map l9)])) (fun q => K.length - q.1.1) ⟨(0,[]),hb1⟩ ⟨[],[0,1],_,_,rfl,rfl,⟨.r,⟨.of_eq (congrArg (AV.own _ 0) (by simp)),⟨.r,⟨.r,⟨.r,tr⟩⟩⟩⟩⟩,.r⟩ ?_
  rintro ⟨⟨M,A⟩,hc1⟩
  have hc1:a2h (K.drop M) A = some B:=hc1
  refine (show awp Tryz.prog ⟨true,true,true⟩ 0 _ (ofL [(2,(.ptr 0 0 0)),(3,(.own 1 0 A.length)),(7,(.lst 3 (K.map o6))),(8,(.I (K.length:Int))),(9,(.I (M:Int)))]) [.box 5 (.agg [(.I 0),(.I 0),(.str []),.nil,.nil]),.row 5 (A.map l9)] _ from ?_)
  rcases a5n K M with ⟨hie29,hd32⟩ | ⟨hlt27,J,hx28,hd32⟩
  ·rw [hd32,a2h.eq_1] at hc1
   have hq31:=dlf hie29
   refine sr<|x8 (.bool (decide ((M:Int) < (K.length:Int)))) rfl (.of rfl tr) rfl<|dk<|o7<|y9 rfl hq31<|a2l<|a2k<|a1t<|a2j<|?_;obtain rfl:=os hc1;exact ⟨[],[0,1],_,_,rfl,rfl,⟨.r,⟨.r,tr⟩⟩,.r⟩
  ·rw [hd32,a2h.eq_2] at hc1
   have hq31:=dlt hlt27
   refine sr<|x8 (.bool (decide ((M:Int) < (K.length:Int)))) rfl (.of rfl tr) rfl<|dk<|o7<|y8 rfl hq31<|a0j<|a0i<|o7<|a2x<|sr<|x9 (a1n (enc:=o6) rfl rfl hx28)<|x8 (o6 J) rfl (.of nle tr) rfl<|x9 (a1j (j:=2) (c:=(.agg [(.I 0),(.I 0),(.str [])])) rfl tr rfl rfl)<|a1v (a0f (v:=(.agg [(.I J.Kind),(.I J.N),(.str J.T)])) (y':=(.agg [(.I J.Kind),(.I J.N),(.str J.T)])) rfl rfl rfl tr ⟨rfl,nle⟩ ⟨⟨rfl,tr⟩,⟨⟨rfl,tr⟩,⟨⟨rfl,tr⟩,tr⟩⟩⟩ rfl)<|dk<|a0s<|?_
   obtain ⟨F,er35,hc1⟩:=ob hc1
   obtain ⟨g36,hc1⟩:=og hc1
   refine l7 (.own 1 0 A.length) rfl<|x8 (.agg [(.I J.Kind),(.I J.N),(.str J.T)]) rfl (.of nle tr) rfl<|x9 (a2z (v:=(.agg [(.I F.Kind),(.I F.N),(.str F.T),(.own 3 0 F.Keys.length),(.own 4 0 F.Items.length)])) (h':=[.row 1 (F.Keys.map AV.str),.row 5 (F.Items.map l9)]) (b8t _ _ er35) rfl .r (by simp only [a2f,a2a,List.length_map,o8,List.nil_append,List.append_nil,List.cons_append];rfl))<|?_;refine x9 (a0o (j:=5) (as':=[(l9 F)]) rfl (fun _ => by decide) ⟨rfl,tr⟩ (.cons (leJ (x:=F) (.agg (.cons .r (.cons .r (.cons .r (.cons (.of_eq (congrArg (AV.lst _) (tk (enc:=AV.str) F.Keys))) (.cons (.of_eq (congrArg (AV.lst _) (tk (enc:=l9) F.Items))) .nil))))))) .nil) rfl rfl rfl) ?_
   refine x9 (a4e (j:=6) (L:=((A ++ [F]).map l9)) (len:=(A ++ [F]).length) rfl true rfl rfl (fun h => Bool.noConfusion h) (fun _ _ h => (e0o (show AV.own _ _ _ = AV.lst _ _ from h)).elim) (by decide) (c4p (enc:=l9) A [F] _ (by rfl)) (by simp <;> omega) g36 rfl rfl) ?_
   refine l7 (.own 6 0 ((A ++ [F]).length)) rfl<|a0h<|a2v<|a0i<|a0s<|x8 (.I (w64 ((M:Int) + 1))) rfl (.of rfl tr) rfl<|l7 (.I (w64 ((M:Int) + 1))) rfl<|a0h<|?_;exact a1m ⟨((M + 1),A ++ [F]),hc1⟩ (mul hlt27) ⟨[],[0,6],_,_,rfl,rfl,⟨.r,⟨.r,⟨.r,⟨.r,⟨.of_eq (congrArg (AV.int _) (a1p hlt27 hl2)),tr⟩⟩⟩⟩⟩,.r⟩
 ·refine o7<|sr<|l7 (.own 1 0 B.length) rfl<|a0y (a7n rfl rfl) fun hl37 => x8 (.bool ((B.length:Int) == 1)) rfl (.of rfl tr) rfl<|dk<|?_
  rcases oi hf with ⟨c38,hf⟩ | ⟨c38,hf⟩
  ·refine y8 rfl c38<|o7<|?_
   obtain ⟨D,ex41,hf⟩:=ob hf
   refine e7y (o:=1) (i:=0) (el:=(.agg [(.I D.Kind),(.I D.N),(.str D.T),(.lst 1 (D.Keys.map AV.str)),(.lst 5 (D.Items.map l9))])) (el2:=(.agg [(.I D.Kind),(.I D.N),(.str D.T),(.own 2 0 D.Keys.length),(.own 3 0 D.Items.length)])) (xs:=[.row 1 (D.Keys.map AV.str),.row 5 (D.Items.map l9)]) rfl rfl rfl ex41 (o8 _) (by simp only [AV.cells,a2a,a2f,List.length_map,List.nil_append,List.append_nil,List.cons_append];rfl)<|a0s<|?_
   obtain ⟨g42,hf⟩:=og hf
   refine l7 (.own 1 0 B.length) rfl<|x9 (e0n rfl rfl g42 rfl rfl)<|x9 (e5m rfl rfl nle rfl)<|a1v (a0f (v:=(.agg [(.I D.Kind),(.I D.N),(.str D.T),(.own 2 0 D.Keys.length),(.own 3 0 D.Items.length)])) (y':=(.agg [(.I D.Kind),(.I D.N),(.str D.T),(.own 2 0 D.Keys.length),(.own 3 0 D.Items.length)])) rfl rfl rfl tr ⟨rfl,nle⟩ ⟨⟨rfl,tr⟩,⟨⟨rfl,tr⟩,⟨⟨rfl,tr⟩,⟨⟨rfl,tr⟩,⟨⟨rfl,tr⟩,tr⟩⟩⟩⟩⟩ rfl)<|dk<|a0e<|?_;obtain rfl:=os hf;exact a2m ⟨.of nle tr,tr⟩ rfl (by decide) (leJ (x:=D) (.agg (.cons .r (.cons .r (.cons .r (.cons (.of_eq (congrArg (AV.lst _) (tk (enc:=AV.str) D.Keys))) (.cons (.of_eq (congrArg (AV.lst _) (tk (enc:=l9) D.Items))) .nil)))))))
  ·refine y9 rfl (bf c38)<|a0j<|a0i<|sr<|?_
   obtain ⟨G,er44,hf⟩:=ob hf
   obtain ⟨H,er46,hf⟩:=ob hf
   obtain ⟨E,er48,hf⟩:=ob hf
   refine x9 (a2z (v:=(.agg [(.I G.Kind),(.I G.N),(.str G.T),(.own 2 0 G.Keys.length),(.own 3 0 G.Items.length)])) (h':=[.row 1 (G.Keys.map AV.str),.row 5 (G.Items.map l9)]) (b4a _ _ er44) rfl .r (by simp only [a2f,a2a,List.length_map,o8,List.nil_append,List.append_nil,List.cons_append];rfl))<|l7 (.own 1 0 B.length) rfl<|?_;refine x9 (a7q (v:=(.agg [(.I H.Kind),(.I H.N),(.str H.T),(.own 4 0 H.Keys.length),(.own 5 0 H.Items.length)])) (h2:=[.box 5 (.agg [(.I 0),(.I 0),(.str []),.nil,.nil]),.dead,.row 1 (G.Keys.map AV.str),.row 5 (G.Items.map l9),.row 1 (H.Keys.map AV.str),.row 5 (H.Items.map l9)]) [] [1] (fun _ => rfl) (b7n _ _ er46) rfl .r .r rfl rfl) ?_
   refine x9 (a0o (j:=6) (as':=[(l9 G),(l9 H)]) rfl (fun _ => by decide) ⟨rfl,⟨rfl,tr⟩⟩ (.cons (leJ (x:=G) (.agg (.cons .r (.cons .r (.cons .r (.cons (.of_eq (congrArg (AV.lst _) (tk (enc:=AV.str) G.Keys))) (.cons (.of_eq (congrArg (AV.lst _) (tk (enc:=l9) G.Items))) .nil))))))) (.cons (leJ (x:=H) (.agg (.cons .r (.cons .r (.cons .r (.cons (.of_eq (congrArg (AV.lst _) (tk (enc:=AV.str) H.Keys))) (.cons (.of_eq (congrArg (AV.lst _) (tk (enc:=l9) H.Items))) .nil))))))) .nil)) rfl rfl rfl) ?_;refine x9 (a7q (v:=(.agg [(.I E.Kind),(.I E.N),(.str E.T),(.own 7 0 E.Keys.length),(.own 8 0 E.Items.length)])) (h2:=[.box 5 (.agg [(.I 0),(.I 0),(.str []),.nil,.nil]),.dead,.dead,.dead,.dead,.dead,.dead,.row 1 (E.Keys.map AV.str),.row 5 (E.Items.map l9)]) [] [6] (fun _ => rfl) (b7n _ _ er48) rfl (.cons (.of_eq (congrArg (AV.own _ 0) (by simp))) .nil) .r rfl rfl) ?_
   refine a1v (a0f (v:=(.agg [(.I E.Kind),(.I E.N),(.str E.T),(.own 7 0 E.Keys.length),(.own 8 0 E.Items.length)])) (y':=(.agg [(.I E.Kind),(.I E.N),(.str E.T),(.own 7 0 E.Keys.length),(.own 8 0 E.Items.length)])) rfl rfl rfl tr ⟨rfl,nle⟩ ⟨⟨rfl,tr⟩,⟨⟨rfl,tr⟩,⟨⟨rfl,tr⟩,⟨⟨rfl,tr⟩,⟨⟨rfl,tr⟩,tr⟩⟩⟩⟩⟩ rfl)<|dk<|a0e<|?_;obtain rfl:=os hf;exact a2m ⟨.of nle tr,tr⟩ rfl (by decide) (leJ (x:=E) (.agg (.cons .r (.cons .r (.cons .r (.cons (.of_eq (congrArg (AV.lst _) (tk (enc:=AV.str) E.Keys))) (.cons (.of_eq (congrArg (AV.lst _) (tk (enc:=l9) E.Items))) .nil)))))))

/- impl.rowJson -/
def c98:a0m :=
 (.seq (.reg (tq 3 (.box 2 (.t 1)) (tq 4 (.box 5 (.c (.agg [(.int .i64 0),(.int .i64 0),(.str []),.nil,.nil]))) .done)))
 (.seq (.reg (tq 12 (.mkmap) (tm 5 (.t 12) .done)))
 (.seq (.seq (.reg (tm 13 (.t 0) (tq 14 (.len (.t 13)) (tm 15 (.c (.int .i64 0)) .done))))
 (.block 0 (.loop (.seq (.reg (tq 16 (.bin .lss (.t 15) (.t 14)) .done))
 (.seq (.cond (.t 16) .skip
 (.exit 0))
 (.seq (.block 1 (.seq (.reg (tm 17 (.t 15) (tq 18 (.iaddr 1 (.t 13) (.t 15)) (tq 19 (.load 1 false (.t 18)) (tm 6 (.t 17) (tm 7 (.t 19) .done))))))
 (.reg (tm 20 (.t 5) (tm 21 (.t 7) (tq 22 (.faddr 1 (.t 3)) (tq 23 (.load 1 false (.t 22)) (tm 24 (.t 6) (tq 25 (.iaddr 1 (.t 23) (.t 24)) (tq 26 (.load 1 false (.t 25)) (.q ⟨none,none,.mapset (.t 20) (.t 21) (.t 26)⟩
 .done)))))))))))
 (.reg (tq 27 (.bin .add (.t 15) (.c (.int .i64 1))) (tm 15 (.t 27) .done)))))))))
 (.cut (.seq (.reg (tm 28 (.t 0) (tq 29 (.call 197 [(.t 28)]) (tq 30 (.bslice 5 []) (tm 8 (.t 29) (tm 9 (.t 30) .done))))))
 (.seq (.reg (tm 31 (.t 8) (tq 32 (.call 198 [(.t 31)]) .done)))
 (.seq (.reg (tm 33 (.t 8) (tq 34 (.call 199 [(.t 33)]) (tm 8 (.t 34) .done))))
 (.seq (.seq (.reg (tm 35 (.t 8) (tq 36 (.len (.t 35)) (tm 37 (.c (.int .i64 0)) .done))))
 (.block 2 (.loop (.seq (.reg (tq 38 (.bin .lss (.t 37) (.t 36)) .done))
 (.seq (.cond (.t 38) .skip
 (.exit 2))
 (.seq (.block 3 (.seq (.reg (tq 39 (.iaddr 1 (.t 35) (.t 37)) (tq 40 (.load 1 false (.t 39)) (tm 11 (.t 40) .done))))
 (.reg (tm 41 (.t 9) (tm 42 (.t 5) (tm 43 (.t 11) (tq 44 (.mapget .nil (.t 42) (.t 43)) (tq 45 (.call 130 [(.t 44)]) (tq 46 (.bslice 5 [(.t 45)]) (tq 47 (.append 5 80 (.t 41) (.t 46)) (tm 9 (.t 47) .done)))))))))))
 (.reg (tq 48 (.bin .add (.t 37) (.c (.int .i64 1))) (tm 37 (.t 48) .done)))))))))
 (.cut (.seq (.reg (tm 49 (.t 8) (tm 50 (.t 9) (tq 51 (.call 200 [(.t 49),(.t 50)]) (.q ⟨none,none,.store 5 (.t 4) (.t 51)⟩
 .done)))))
 .ret))))))))))
theorem f3s:a1b Tryz.prog Tryz.f98 = some (c98.erase,[.load 5 true (.t 4)],52):=by kernel_rfl
def a5i (M:a1u):List Str → Nat → (List (Str × (List a0k))) → Option (List (Str × (List a0k)))
  | [],E,O =>
    some O
  | P :: xs,E,O =>
    (idx M.Cells (E:Int)).bind fun S =>
    a5i M xs (E + 1) (b4z O P S)

def a5j (B:(List Str)) (J:(List (Str × (List a0k)))):List Str → Nat → (List o9) → Option (List o9)
  | [],G,D =>
    some D
  | U :: xs,G,D =>
    if G < B.length then
    (a6l J U).bind fun W =>
    (a5y W).bind fun H =>
    if (D ++ [H]).length ≤ 2 ^ 30 then
    a5j B J xs (G + 1) (D ++ [H])
    else none
    else none

def b0j (A:(List Str)) (M:a1u):Option o9 :=
    (a5i M A 0 []).bind fun J =>
    (a5x A).bind fun R =>
    (a3q R).bind fun V =>
    (a3e V).bind fun B =>
    (a5j B J B 0 []).bind fun K =>
    (a6p B K).bind fun F =>
    some F
theorem c9g (A:(List Str)) (M:a1u) (r:o9) (hf:b0j A M = some r):a0a Tryz.prog 98 .fresh [(.lst 1 (A.map AV.str)),(y5 M)] (l9 r):=by
 refine a0a.of_awp mixed Tryz.func98 f3s nle ?_;rw [a0l];unfold b0j at hf;unfold c98;refine (show awp Tryz.prog true 0 _ (ofL [(0,(.lst 1 (A.map AV.str))),(1,(y5 M))]) [] _ from ?_);refine sr<|x9 (a1j (j:=0) (c:=(.agg [(.I M.Id),(.lst 1 (M.Cells.map (a1q 3 o6)))])) rfl tr rfl rfl)<|x9 (a1j (j:=1) (c:=(.agg [(.I 0),(.I 0),(.str []),.nil,.nil])) rfl tr rfl rfl)<|dk<|sr<|x9 (e5o (j:=2) rfl)<|l7 (.ptr 2 0 0) rfl<|dk<|o7<|sr<|l7 (.lst 1 (A.map AV.str)) rfl<|a0y (a1o (enc:=AV.str) rfl) fun hl3 => l7 (.I 0) rfl<|?_
 refine dk<|?_
 obtain ⟨J,hb1,hf⟩:=ob hf
 refine a1s ([(0,(.lst 1 (A.map AV.str))),(4,(.ptr 0 0 0)),(5,(.ptr 1 0 0))],[.box 5 (.agg [(.I 0),(.I 0),(.str []),.nil,.nil]),.map (J.map fun p => (p.1,(a1q 3 o6) p.2))]) ?_ ?_
 ·refine a1f (X:={q:(Nat × (List (Str × (List a0k)))) // a5i M (A.drop q.1) q.1 q.2 = some J}) (fun q => ([(0,(.lst 1 (A.map AV.str))),(3,(.ptr 0 0 0)),(4,(.ptr 1 0 0)),(5,(.ptr 2 0 0)),(13,(.lst 1 (A.map AV.str))),(14,(.I (A.length:Int))),(15,(.I (q.1.1:Int)))],[.box 2 (.agg [(.I M.Id),(.lst 1 (M.Cells.map (a1q 3 o6)))]),.box 5 (.agg [(.I 0),(.I 0),(.str []),.nil,.nil]),.map (q.1.2.map fun p => (p.1,(a1q 3 o6) p.2))])) (fun q => A.length - q.1.1) ⟨(0,[]),hb1⟩ ⟨[],[0,1,2],_,_,rfl,rfl,⟨.r,⟨.r,⟨.r,⟨.r,⟨.r,⟨.r,⟨.r,tr⟩⟩⟩⟩⟩⟩⟩,(.cons .r (.cons .r (.cons ((c3a (enc:=(a1q 3 o6)) (m:=([]:List (Str × (List a0k)))) (fun _ => rfl))) .nil)))⟩ ?_
  rintro ⟨⟨E,O⟩,hc1⟩
  have hc1:a5i M (A.drop E) E O = some J:=hc1
  refine (show awp Tryz.prog true 0 _ (ofL [(0,(.lst 1 (A.map AV.str))),(3,(.ptr 0 0 0)),(4,(.ptr 1 0 0)),(5,(.ptr 2 0 0)),(13,(.lst 1 (A.map AV.str))),(14,(.I (A.length:Int))),(15,(.I (E:Int)))]) [.box 2 (.agg [(.I M.Id),(.lst 1 (M.Cells.map (a1q 3 o6)))]),.box 5 (.agg [(.I 0),(.I 0),(.str []),.nil,.nil]),.map (O.map fun p => (p.1,(a1q 3 o6) p.2))] _ from ?_)
  rcases a5n A E with ⟨hie27,hd30⟩ | ⟨hlt25,P,hx26,hd30⟩
  ·rw [hd30,a5i.eq_1] at hc1
   have hq29:=dlf hie27
   refine sr<|x8 (.bool (decide ((E:Int) < (A.length:Int)))) rfl rfl rfl<|dk<|o7<|y9 rfl hq29<|a2l<|a2k<|a1t<|a2j<|?_;obtain rfl:=os hc1;exact ⟨[],[1,2],_,_,rfl,rfl,⟨.r,⟨.r,⟨.r,tr⟩⟩⟩,(.cons .r (.cons ((c3a (enc:=(a1q 3 o6)) (m:=O) (fun _ => rfl))) .nil))⟩
  ·rw [hd30,a5i.eq_2] at hc1
   have hq29:=dlt hlt25
   refine sr<|x8 (.bool (decide ((E:Int) < (A.length:Int)))) rfl rfl rfl<|dk<|o7<|y8 rfl hq29<|a0j<|a0i<|o7<|a2x<|sr<|l7 (.I (E:Int)) rfl<|x9 (a1n (enc:=AV.str) rfl rfl hx26)<|x8 (.str P) rfl ⟨rfl,rfl⟩ rfl<|l7 (.I (E:Int)) rfl<|l7 (.str P) rfl<|dk<|a0s<|?_
   obtain ⟨S,ex33,hc1⟩:=ob hc1
   refine l7 (.ptr 2 0 0) rfl<|l7 (.str P) rfl<|x8 (.ptr 0 0 1) rfl tr rfl<|x8 (.lst 1 (M.Cells.map (a1q 3 o6))) rfl nle rfl<|l7 (.I (E:Int)) rfl<|x9 (a6s (enc:=(a1q 3 o6)) rfl rfl (b3m ex33) (b3n ex33))<|x8 (.lst 3 (S.map o6)) rfl ⟨rfl,rfl⟩ rfl<|a1v (e2v (enc:=(a1q 3 o6)) (m:=O) (v:=S) rfl rfl rfl rfl)<|a0h<|a2v<|a0i<|a0s<|x8 (.I (w64 ((E:Int) + 1))) rfl rfl rfl<|l7 (.I (w64 ((E:Int) + 1))) rfl<|a0h<|?_;exact a1m ⟨((E + 1),b4z O P S),hc1⟩ (mul hlt25) ⟨[],[0,1,2],_,_,rfl,rfl,⟨.r,⟨.r,⟨.r,⟨.r,⟨.r,⟨.r,⟨.of_eq (congrArg (AV.int _) (a1p hlt25 hl3)),tr⟩⟩⟩⟩⟩⟩⟩,(.cons .r (.cons .r (.cons ((c3a (enc:=(a1q 3 o6)) (m:=(b4z O P S)) (fun _ => rfl))) .nil)))⟩
 ·refine sr<|?_
  obtain ⟨R,er35,hf⟩:=ob hf
  refine l7 (.lst 1 (A.map AV.str)) rfl<|x9 (a2z (v:=(.own 2 0 R.length)) (h':=[.row 1 (R.map AV.str)]) (b5d _ _ er35) rfl .r (by simp only [a2f,a2a,List.length_map,List.nil_append,List.append_nil,List.cons_append];rfl))<|?_;refine x9 (a0o (j:=3) (as':=[]) rfl (fun _ => by decide) tr .r rfl rfl rfl) ?_;refine l7 (.own 2 0 R.length) rfl<|l7 (.own 3 0 0) rfl<|dk<|sr<|?_
  obtain ⟨V,er37,hf⟩:=ob hf
  refine l7 (.own 2 0 R.length) rfl ?_;refine a0y (b2n (v:=(.tup [])) (h2:=[.box 5 (.agg [(.I 0),(.I 0),(.str []),.nil,.nil]),.map (J.map fun p => (p.1,(a1q 3 o6) p.2)),.row 1 (V.map AV.str),.row 5 ([].map l9)]) [] [2] (fun _ => rfl) (b3q _ _ er37) rfl .r .r rfl rfl) fun hl38 => ?_;refine dk<|sr<|?_
  obtain ⟨B,er40,hf⟩:=ob hf
  refine l7 (.own 2 0 R.length) rfl ?_;refine x9 (a7q (v:=(.own 4 0 B.length)) (h2:=[.box 5 (.agg [(.I 0),(.I 0),(.str []),.nil,.nil]),.map (J.map fun p => (p.1,(a1q 3 o6) p.2)),.dead,.row 5 ([].map l9),.row 1 (B.map AV.str)]) [] [2] (fun _ => rfl) (b2j _ _ er40) rfl (.cons (.of_eq (congrArg (AV.own _ 0) (by have h:=(hl38 0 _ _ _ _ rfl rfl);simpa using h.symm))) .nil) .r rfl rfl) ?_;refine l7 (.own 4 0 B.length) rfl<|dk<|o7<|sr<|l7 (.own 4 0 B.length) rfl<|a0y (a7n rfl rfl) fun hl41 => l7 (.I 0) rfl<|dk<|?_
  obtain ⟨K,hb1,hf⟩:=ob hf
  refine a1s ([(4,(.ptr 0 0 0)),(8,(.own 1 0 B.length)),(9,(.own 2 0 K.length))],[.box 5 (.agg [(.I 0),(.I 0),(.str []),.nil,.nil]),.row 1 (B.map AV.str),.row 5 (K.map l9)]) ?_ ?_
  ·refine a1f (X:={q:(Nat × (List o9)) // a5j B J (B.drop q.1) q.1 q.2 = some K}) (fun q => ([(4,(.ptr 0 0 0)),(5,(.ptr 1 0 0)),(8,(.own 2 0 B.length)),(9,(.own 3 0 q.1.2.length)),(35,(.own 2 0 B.length)),(36,(.I (B.length:Int))),(37,(.I (q.1.1:Int)))],[.box 5 (.agg [(.I 0),(.I 0),(.str []),.nil,.nil]),.map (J.map fun p => (p.1,(a1q 3 o6) p.2)),.row 1 (B.map AV.str),.row 5 (q.1.2.map l9)])) (fun q => B.length - q.1.1) ⟨(0,[]),hb1⟩ ⟨[],[0,1,4,3],_,_,rfl,rfl,⟨.r,⟨.r,⟨.r,⟨.of_eq (congrArg (AV.own _ 0) (by simp)),⟨.r,⟨.r,⟨.r,tr⟩⟩⟩⟩⟩⟩⟩,(.cons .r (.cons ((c3a (enc:=(a1q 3 o6)) (m:=J) (fun _ => rfl))) (.cons .r (.cons .r .nil))))⟩ ?_
   rintro ⟨⟨G,D⟩,hc1⟩
   have hc1:a5j B J (B.drop G) G D = some K:=hc1
   refine (show awp Tryz.prog true 0 _ (ofL [(4,(.ptr 0 0 0)),(5,(.ptr 1 0 0)),(8,(.own 2 0 B.length)),(9,(.own 3 0 D.length)),(35,(.own 2 0 B.length)),(36,(.I (B.length:Int))),(37,(.I (G:Int)))]) [.box 5 (.agg [(.I 0),(.I 0),(.str []),.nil,.nil]),.map (J.map fun p => (p.1,(a1q 3 o6) p.2)),.row 1 (B.map AV.str),.row 5 (D.map l9)] _ from ?_)
   rcases a5n B G with ⟨hie77,hd80⟩ | ⟨hlt75,U,hx76,hd80⟩
   ·rw [hd80,a5j.eq_1] at hc1
    have hq79:=dlf hie77
    refine sr<|x8 (.bool (decide ((G:Int) < (B.length:Int)))) rfl rfl rfl<|dk<|o7<|y9 rfl hq79<|a2l<|a2k<|a1t<|a2j<|?_;obtain rfl:=os hc1;exact ⟨[],[0,2,3],_,_,rfl,rfl,⟨.r,⟨.r,⟨.r,tr⟩⟩⟩,.r⟩
   ·rw [hd80,a5j.eq_2] at hc1
    have hq79:=dlt hlt75
    refine sr<|x8 (.bool (decide ((G:Int) < (B.length:Int)))) rfl rfl rfl<|dk<|o7<|y8 rfl hq79<|a0j<|a0i<|o7<|a2x<|sr<|?_
    obtain ⟨g82,hc1⟩:=og hc1
    refine x9 (b1y rfl rfl g82 rfl rfl)<|x9 (a7k (enc:=AV.str) (v:=(.str U)) rfl rfl hx76 ⟨rfl,rfl⟩ rfl)<|l7 (.str U) rfl<|dk<|a0s<|?_
    obtain ⟨W,ex84,hc1⟩:=ob hc1
    obtain ⟨H,er86,hc1⟩:=ob hc1
    obtain ⟨g87,hc1⟩:=og hc1
    refine l7 (.own 3 0 D.length) rfl<|l7 (.ptr 1 0 0) rfl<|l7 (.str U) rfl<|x9 (e2w (enc:=(a1q 3 o6)) rfl rfl rfl ex84)<|x9 (a2z (v:=(.agg [(.I H.Kind),(.I H.N),(.str H.T),(.own 4 0 H.Keys.length),(.own 5 0 H.Items.length)])) (h':=[.row 1 (H.Keys.map AV.str),.row 5 (H.Items.map l9)]) (c4v _ _ er86) rfl .r (by simp only [a2f,a2a,List.length_map,o8,List.nil_append,List.append_nil,List.cons_append];rfl))<|?_;refine x9 (a0o (j:=6) (as':=[(l9 H)]) rfl (fun _ => by decide) ⟨rfl,tr⟩ (.cons (leJ (x:=H) (.agg (.cons .r (.cons .r (.cons .r (.cons (.of_eq (congrArg (AV.lst _) (tk (enc:=AV.str) H.Keys))) (.cons (.of_eq (congrArg (AV.lst _) (tk (enc:=l9) H.Items))) .nil))))))) .nil) rfl rfl rfl) ?_
    refine x9 (a4e (j:=7) (L:=((D ++ [H]).map l9)) (len:=(D ++ [H]).length) rfl true rfl rfl (fun h => Bool.noConfusion h) (fun _ _ h => (e0o (show AV.own _ _ _ = AV.lst _ _ from h)).elim) (by decide) (c4p (enc:=l9) D [H] _ (by rfl)) (by simp <;> omega) g87 rfl rfl) ?_
    refine l7 (.own 7 0 ((D ++ [H]).length)) rfl<|a0h<|a2v<|a0i<|a0s<|x8 (.I (w64 ((G:Int) + 1))) rfl rfl rfl<|l7 (.I (w64 ((G:Int) + 1))) rfl<|a0h<|?_;exact a1m ⟨((G + 1),D ++ [H]),hc1⟩ (mul hlt75) ⟨[],[0,1,2,7],_,_,rfl,rfl,⟨.r,⟨.r,⟨.r,⟨.r,⟨.r,⟨.r,⟨.of_eq (congrArg (AV.int _) (a1p hlt75 hl41)),tr⟩⟩⟩⟩⟩⟩⟩,(.cons .r (.cons ((c3a (enc:=(a1q 3 o6)) (m:=J) (fun _ => rfl))) (.cons .r (.cons .r .nil))))⟩
  ·refine sr<|?_
   obtain ⟨F,er89,hf⟩:=ob hf
   refine l7 (.own 1 0 B.length) rfl<|l7 (.own 2 0 K.length) rfl<|?_;refine x9 (a7q (v:=(.agg [(.I F.Kind),(.I F.N),(.str F.T),(.own 3 0 F.Keys.length),(.own 4 0 F.Items.length)])) (h2:=[.box 5 (.agg [(.I 0),(.I 0),(.str []),.nil,.nil]),.dead,.dead,.row 1 (F.Keys.map AV.str),.row 5 (F.Items.map l9)]) [] [1,2] (fun _ => rfl) (a7o _ _ _ er89) rfl .r .r rfl rfl) ?_;refine a1v (a0f (v:=(.agg [(.I F.Kind),(.I F.N),(.str F.T),(.own 3 0 F.Keys.length),(.own 4 0 F.Items.length)])) (y':=(.agg [(.I F.Kind),(.I F.N),(.str F.T),(.own 3 0 F.Keys.length),(.own 4 0 F.Items.length)])) rfl rfl rfl tr ⟨rfl,nle⟩ ⟨⟨rfl,tr⟩,⟨⟨rfl,tr⟩,⟨⟨rfl,tr⟩,⟨⟨rfl,tr⟩,⟨⟨rfl,tr⟩,tr⟩⟩⟩⟩⟩ rfl) ?_
   refine dk<|a0e<|?_;obtain rfl:=os hf;exact a2m ⟨nle,tr⟩ rfl (by decide) (leJ (x:=F) (.agg (.cons .r (.cons .r (.cons .r (.cons (.of_eq (congrArg (AV.lst _) (tk (enc:=AV.str) F.Keys))) (.cons (.of_eq (congrArg (AV.lst _) (tk (enc:=l9) F.Items))) .nil)))))))

/- impl.resultJson -/
def f2e:a0m :=
 (.seq (.reg (tq 3 (.box 5 (.t 1)) (tq 4 (.box 5 (.c (.agg [(.int .i64 0),(.int .i64 0),(.str []),.nil,.nil]))) .done)))
 (.seq (.seq (.reg (tq 8 (.faddr 0 (.t 3)) (tq 9 (.load 1 false (.t 8)) (tq 10 (.bin .neq (.t 9) (.c (.int .i64 0))) .done))))
 (.cond (.t 10) (.seq (.reg (tq 11 (.bslice 1 [(.c (.str [101,114,114,111,114]))]) (tq 12 (.faddr 0 (.t 3)) (tq 13 (.load 1 false (.t 12)) (tq 14 (.call 221 [(.t 13)]) (tq 15 (.call 220 [(.t 14)]) (tq 16 (.bslice 5 [(.t 15)]) (tq 17 (.call 200 [(.t 11),(.t 16)]) (.q ⟨none,none,.store 5 (.t 4) (.t 17)⟩
 .done)))))))))
 .ret)
 .skip))
 (.seq (.seq (.reg (tm 18 (.t 0) .done))
 (.block 0 (.seq (.reg (tq 20 (.bin .eql (.t 18) (.c (.int .i64 1))) (tm 19 (.t 20) .done)))
 (.cond (.t 19) (.seq (.reg (tq 21 (.bslice 1 [(.c (.str [117,117,105,100]))]) (tq 22 (.faddr 2 (.t 3)) (tq 23 (.load 1 false (.t 22)) (tq 24 (.build [(.int .i64 0),(.int .i64 0),(.str [])] [(0,1,(.c (.int .i64 4))),(1,1,(.t 23))]) (tq 25 (.call 136 [(.t 24)]) (tq 26 (.bslice 5 [(.t 25)]) (tq 27 (.call 200 [(.t 21),(.t 26)]) (.q ⟨none,none,.store 5 (.t 4) (.t 27)⟩
 .done)))))))))
 .ret)
 (.seq (.reg (tq 29 (.bin .eql (.t 18) (.c (.int .i64 2))) (tm 28 (.t 29) .done)))
 (.cond (.t 28) (.seq (.reg (tq 30 (.bslice 5 []) (tm 5 (.t 30) .done)))
 (.seq (.seq (.reg (tq 31 (.faddr 4 (.t 3)) (tq 32 (.load 1 false (.t 31)) (tq 33 (.len (.t 32)) (tm 34 (.c (.int .i64 0)) .done)))))
 (.block 1 (.loop (.seq (.reg (tq 35 (.bin .lss (.t 34) (.t 33)) .done))
 (.seq (.cond (.t 35) .skip
 (.exit 1))
 (.seq (.block 2 (.seq (.reg (tq 36 (.iaddr 2 (.t 32) (.t 34)) (tq 37 (.load 2 true (.t 36)) (tq 7 (.box 2 (.c (.agg [(.int .i64 0),.nil]))) (.q ⟨none,none,.store 2 (.t 7) (.t 37)⟩
 .done)))))
 (.reg (tm 38 (.t 5) (tq 39 (.faddr 3 (.t 3)) (tq 40 (.load 1 false (.t 39)) (tq 41 (.load 2 true (.t 7)) (tq 42 (.call 98 [(.t 40),(.t 41)]) (tq 43 (.bslice 5 [(.t 42)]) (tq 44 (.append 5 80 (.t 38) (.t 43)) (tm 5 (.t 44) .done)))))))))))
 (.reg (tq 45 (.bin .add (.t 34) (.c (.int .i64 1))) (tm 34 (.t 45) .done)))))))))
 (.cut (.seq (.reg (tq 46 (.bslice 1 [(.c (.str [114,111,119,115]))]) (tm 47 (.t 5) (tq 48 (.call 222 [(.t 47)]) (tq 49 (.bslice 5 [(.t 48)]) (tq 50 (.call 200 [(.t 46),(.t 49)]) (.q ⟨none,none,.store 5 (.t 4) (.t 50)⟩
 .done)))))))
 .ret))))
 (.seq (.seq (.reg (tq 52 (.bin .eql (.t 18) (.c (.int .i64 3))) (tm 51 (.t 52) .done)))
 (.cond (.t 51) .skip
 (.seq (.reg (tq 53 (.bin .eql (.t 18) (.c (.int .i64 4))) (tm 51 (.t 53) .done)))
 (.cond (.t 51) .skip
 (.reg (tq 54 (.bin .eql (.t 18) (.c (.int .i64 5))) (tm 51 (.t 54) .done)))))))
 (.cut (.cond (.t 51) (.seq (.reg (tq 55 (.bslice 1 [(.c (.str [99,111,117,110,116]))]) (tq 56 (.faddr 1 (.t 3)) (tq 57 (.load 1 false (.t 56)) (tq 58 (.call 223 [(.t 57)]) (tq 59 (.bslice 5 [(.t 58)]) (tq 60 (.call 200 [(.t 55),(.t 59)]) (.q ⟨none,none,.store 5 (.t 4) (.t 60)⟩
 .done))))))))
 .ret)
 .skip)))))))))
 (.seq (.reg (tq 61 (.build [(.int .i64 0),(.int .i64 0),(.str []),.nil,.nil] [(0,1,(.c (.int .i64 5)))]) (.q ⟨none,none,.store 5 (.t 4) (.t 61)⟩
 .done)))
 .ret))))
theorem f2f:a1b Tryz.prog Tryz.f123 = some (f2e.erase,[.load 5 true (.t 4)],62):=by kernel_rfl
def a3n (A:a1i):List a1u → (List o9) → Option (List o9)
  | [],D =>
    some D
  | U :: xs,D =>
    (b0j A.Columns U).bind fun H =>
    if (D ++ [H]).length ≤ 2 ^ 30 then
    a3n A xs  (D ++ [H])
    else none

def a8w (B:Int) (A:a1i):Option o9 :=
    if (A.Code != 0) then
    (b1b A.Code).bind fun W =>
    (a8q W).bind fun S =>
    (a6p [[101,114,114,111,114]] [S]).bind fun J =>
    some J
    else
    if (B == 1) then
    (a4x (⟨4,A.Id,[]⟩:a0k)).bind fun K =>
    (a6p [[117,117,105,100]] [K]).bind fun E =>
    some E
    else
    if (B == 2) then
    (a3n A A.Rows []).bind fun M =>
    (a7p M).bind fun O =>
    (a6p [[114,111,119,115]] [O]).bind fun F =>
    some F
    else
    ((if (B == 3) then
    some true
    else
    if (B == 4) then
    some true
    else
    some (B == 5):Option Bool)).bind fun V =>
    if V then
    (a9i A.Count).bind fun P =>
    (a6p [[99,111,117,110,116]] [P]).bind fun G =>
    some G
    else
    some (⟨5,0,[],[],[]⟩:o9)
theorem c3j (B:Int) (A:a1i) (r:o9) (hf:a8w B A = some r):a0a Tryz.prog 123 .fresh [(.I B),(a2c A)] (l9 r):=by
 refine a0a.of_awp mixed Tryz.func123 f2f nle ?_;rw [a0l];unfold a8w at hf;unfold f2e;refine (show awp Tryz.prog true 0 _ (ofL [(0,(.I B)),(1,(a2c A))]) [] _ from ?_);refine sr<|x9 (a1j (j:=0) (c:=(.agg [(.I A.Code),(.I A.Count),(.I A.Id),(.lst 1 (A.Columns.map AV.str)),(.lst 2 (A.Rows.map y5))])) rfl tr rfl rfl)<|x9 (a1j (j:=1) (c:=(.agg [(.I 0),(.I 0),(.str []),.nil,.nil])) rfl tr rfl rfl)<|dk<|o7<|sr<|x8 (.ptr 0 0 0) rfl tr rfl<|x8 (.I A.Code) rfl nle rfl<|x8 (.bool (A.Code != 0)) rfl rfl rfl<|dk<|?_
 rcases oi hf with ⟨c3,hf⟩ | ⟨c3,hf⟩
 ·refine y8 rfl c3<|sr<|?_
  obtain ⟨W,er5,hf⟩:=ob hf
  obtain ⟨S,er7,hf⟩:=ob hf
  obtain ⟨J,er9,hf⟩:=ob hf
  refine x9 (a0o (j:=2) (as':=[(.str [101,114,114,111,114])]) rfl (fun _ => by decide) ⟨rfl,tr⟩ .r rfl rfl rfl) ?_;refine x8 (.ptr 0 0 0) rfl tr rfl<|x8 (.I A.Code) rfl nle rfl<|x9 (a0n (c6t _ _ er5) rfl .r rfl)<|x9 (a2z (v:=(.agg [(.I S.Kind),(.I S.N),(.str S.T),(.own 3 0 S.Keys.length),(.own 4 0 S.Items.length)])) (h':=[.row 1 (S.Keys.map AV.str),.row 5 (S.Items.map l9)]) (b4a _ _ er7) rfl .r (by simp only [a2f,a2a,List.length_map,o8,List.nil_append,List.append_nil,List.cons_append];rfl))<|?_;refine x9 (a0o (j:=5) (as':=[(l9 S)]) rfl (fun _ => by decide) ⟨rfl,tr⟩ (.cons (leJ (x:=S) (.agg (.cons .r (.cons .r (.cons .r (.cons (.of_eq (congrArg (AV.lst _) (tk (enc:=AV.str) S.Keys))) (.cons (.of_eq (congrArg (AV.lst _) (tk (enc:=l9) S.Items))) .nil))))))) .nil) rfl rfl rfl) ?_
  refine x9 (a7q (v:=(.agg [(.I J.Kind),(.I J.N),(.str J.T),(.own 6 0 J.Keys.length),(.own 7 0 J.Items.length)])) (h2:=[.box 5 (.agg [(.I A.Code),(.I A.Count),(.I A.Id),(.lst 1 (A.Columns.map AV.str)),(.lst 2 (A.Rows.map y5))]),.box 5 (.agg [(.I 0),(.I 0),(.str []),.nil,.nil]),.dead,.dead,.dead,.dead,.row 1 (J.Keys.map AV.str),.row 5 (J.Items.map l9)]) [] [2,5] (fun _ => rfl) (a7o _ _ _ er9) rfl (.cons (.of_eq (congrArg (AV.own _ 0) (by simp))) (.cons (.of_eq (congrArg (AV.own _ 0) (by simp))) .nil)) .r rfl rfl) ?_;refine a1v (a0f (v:=(.agg [(.I J.Kind),(.I J.N),(.str J.T),(.own 6 0 J.Keys.length),(.own 7 0 J.Items.length)])) (y':=(.agg [(.I J.Kind),(.I J.N),(.str J.T),(.own 6 0 J.Keys.length),(.own 7 0 J.Items.length)])) rfl rfl rfl tr ⟨rfl,nle⟩ ⟨⟨rfl,tr⟩,⟨⟨rfl,tr⟩,⟨⟨rfl,tr⟩,⟨⟨rfl,tr⟩,⟨⟨rfl,tr⟩,tr⟩⟩⟩⟩⟩ rfl) ?_
  refine dk<|a0e<|?_;obtain rfl:=os hf;exact a2m ⟨nle,tr⟩ rfl (by decide) (leJ (x:=J) (.agg (.cons .r (.cons .r (.cons .r (.cons (.of_eq (congrArg (AV.lst _) (tk (enc:=AV.str) J.Keys))) (.cons (.of_eq (congrArg (AV.lst _) (tk (enc:=l9) J.Items))) .nil)))))))
 ·refine y9 rfl (bf c3)<|a0j<|a0i<|o7<|sr<|l7 (.I B) rfl<|dk<|a2x<|sr<|x8 (.bool (B == 1)) rfl rfl rfl<|l7 (.bool (B == 1)) rfl<|dk<|?_
  rcases oi hf with ⟨c10,hf⟩ | ⟨c10,hf⟩
  ·refine y8 rfl c10<|sr<|?_
   obtain ⟨K,er12,hf⟩:=ob hf
   obtain ⟨E,er14,hf⟩:=ob hf
   refine x9 (a0o (j:=2) (as':=[(.str [117,117,105,100])]) rfl (fun _ => by decide) ⟨rfl,tr⟩ .r rfl rfl rfl) ?_;refine x8 (.ptr 0 0 2) rfl tr rfl<|x8 (.I A.Id) rfl nle rfl<|x8 (.agg [(.I 4),(.I A.Id),(.str [])]) rfl ⟨⟨rfl,nle,tr⟩,⟨⟨rfl,nle,tr⟩,tr⟩⟩ rfl<|x9 (a2z (v:=(.agg [(.I K.Kind),(.I K.N),(.str K.T),(.own 3 0 K.Keys.length),(.own 4 0 K.Items.length)])) (h':=[.row 1 (K.Keys.map AV.str),.row 5 (K.Items.map l9)]) (b8t _ _ er12) rfl .r (by simp only [a2f,a2a,List.length_map,o8,List.nil_append,List.append_nil,List.cons_append];rfl))<|?_
   refine x9 (a0o (j:=5) (as':=[(l9 K)]) rfl (fun _ => by decide) ⟨rfl,tr⟩ (.cons (leJ (x:=K) (.agg (.cons .r (.cons .r (.cons .r (.cons (.of_eq (congrArg (AV.lst _) (tk (enc:=AV.str) K.Keys))) (.cons (.of_eq (congrArg (AV.lst _) (tk (enc:=l9) K.Items))) .nil))))))) .nil) rfl rfl rfl) ?_;refine x9 (a7q (v:=(.agg [(.I E.Kind),(.I E.N),(.str E.T),(.own 6 0 E.Keys.length),(.own 7 0 E.Items.length)])) (h2:=[.box 5 (.agg [(.I A.Code),(.I A.Count),(.I A.Id),(.lst 1 (A.Columns.map AV.str)),(.lst 2 (A.Rows.map y5))]),.box 5 (.agg [(.I 0),(.I 0),(.str []),.nil,.nil]),.dead,.dead,.dead,.dead,.row 1 (E.Keys.map AV.str),.row 5 (E.Items.map l9)]) [] [2,5] (fun _ => rfl) (a7o _ _ _ er14) rfl (.cons (.of_eq (congrArg (AV.own _ 0) (by simp))) (.cons (.of_eq (congrArg (AV.own _ 0) (by simp))) .nil)) .r rfl rfl) ?_
   refine a1v (a0f (v:=(.agg [(.I E.Kind),(.I E.N),(.str E.T),(.own 6 0 E.Keys.length),(.own 7 0 E.Items.length)])) (y':=(.agg [(.I E.Kind),(.I E.N),(.str E.T),(.own 6 0 E.Keys.length),(.own 7 0 E.Items.length)])) rfl rfl rfl tr ⟨rfl,nle⟩ ⟨⟨rfl,tr⟩,⟨⟨rfl,tr⟩,⟨⟨rfl,tr⟩,⟨⟨rfl,tr⟩,⟨⟨rfl,tr⟩,tr⟩⟩⟩⟩⟩ rfl)<|dk<|a0e<|?_;obtain rfl:=os hf;exact a2m ⟨nle,tr⟩ rfl (by decide) (leJ (x:=E) (.agg (.cons .r (.cons .r (.cons .r (.cons (.of_eq (congrArg (AV.lst _) (tk (enc:=AV.str) E.Keys))) (.cons (.of_eq (congrArg (AV.lst _) (tk (enc:=l9) E.Items))) .nil)))))))
  ·refine y9 rfl (bf c10)<|sr<|x8 (.bool (B == 2)) rfl rfl rfl<|l7 (.bool (B == 2)) rfl<|dk<|?_
   rcases oi hf with ⟨c15,hf⟩ | ⟨c15,hf⟩
   ·refine y8 rfl c15<|sr<|?_;refine x9 (a0o (j:=2) (as':=[]) rfl (fun _ => by decide) tr .r rfl rfl rfl) ?_;refine l7 (.own 2 0 0) rfl<|dk<|o7<|sr<|x8 (.ptr 0 0 4) rfl tr rfl<|x8 (.lst 2 (A.Rows.map y5)) rfl nle rfl<|a0y (a1o (enc:=y5) rfl) fun hl16 => l7 (.I 0) rfl<|dk<|?_
    obtain ⟨M,hb1,hf⟩:=ob hf
    refine a1s ([(4,(.ptr 0 0 0)),(5,(.own 1 0 M.length))],[.box 5 (.agg [(.I 0),(.I 0),(.str []),.nil,.nil]),.row 5 (M.map l9)]) ?_ ?_
    ·refine a1f (X:={q:(Nat × (List o9)) // a3n A (A.Rows.drop q.1) q.2 = some M}) (fun q => ([(3,(.ptr 0 0 0)),(4,(.ptr 1 0 0)),(5,(.own 2 0 q.1.2.length)),(32,(.lst 2 (A.Rows.map y5))),(33,(.I (A.Rows.length:Int))),(34,(.I (q.1.1:Int)))],[.box 5 (.agg [(.I A.Code),(.I A.Count),(.I A.Id),(.lst 1 (A.Columns.map AV.str)),(.lst 2 (A.Rows.map y5))]),.box 5 (.agg [(.I 0),(.I 0),(.str []),.nil,.nil]),.row 5 (q.1.2.map l9)])) (fun q => A.Rows.length - q.1.1) ⟨(0,[]),hb1⟩ ⟨[],[0,1,2],_,_,rfl,rfl,⟨.r,⟨.r,⟨.of_eq (congrArg (AV.own _ 0) (by simp)),⟨.r,⟨.r,⟨.r,tr⟩⟩⟩⟩⟩⟩,.r⟩ ?_
     rintro ⟨⟨R,D⟩,hc1⟩
     have hc1:a3n A (A.Rows.drop R) D = some M:=hc1
     refine (show awp Tryz.prog true 0 _ (ofL [(3,(.ptr 0 0 0)),(4,(.ptr 1 0 0)),(5,(.own 2 0 D.length)),(32,(.lst 2 (A.Rows.map y5))),(33,(.I (A.Rows.length:Int))),(34,(.I (R:Int)))]) [.box 5 (.agg [(.I A.Code),(.I A.Count),(.I A.Id),(.lst 1 (A.Columns.map AV.str)),(.lst 2 (A.Rows.map y5))]),.box 5 (.agg [(.I 0),(.I 0),(.str []),.nil,.nil]),.row 5 (D.map l9)] _ from ?_)
     rcases a5n A.Rows R with ⟨hie43,hd46⟩ | ⟨hlt41,U,hx42,hd46⟩
     ·rw [hd46,a3n.eq_1] at hc1
      have hq45:=dlf hie43
      refine sr<|x8 (.bool (decide ((R:Int) < (A.Rows.length:Int)))) rfl rfl rfl<|dk<|o7<|y9 rfl hq45<|a2l<|a2k<|a1t<|a2j<|?_;obtain rfl:=os hc1;exact ⟨[],[1,2],_,_,rfl,rfl,⟨.r,⟨.r,tr⟩⟩,.r⟩
     ·rw [hd46,a3n.eq_2] at hc1
      have hq45:=dlt hlt41
      refine sr<|x8 (.bool (decide ((R:Int) < (A.Rows.length:Int)))) rfl rfl rfl<|dk<|o7<|y8 rfl hq45<|a0j<|a0i<|o7<|a2x<|sr<|x9 (a1n (enc:=y5) rfl rfl hx42)<|x8 (y5 U) rfl nle rfl<|x9 (a1j (j:=3) (c:=(.agg [(.I 0),.nil])) rfl tr rfl rfl)<|a1v (a0f (v:=(.agg [(.I U.Id),(.lst 1 (U.Cells.map (a1q 3 o6)))])) (y':=(.agg [(.I U.Id),(.lst 1 (U.Cells.map (a1q 3 o6)))])) rfl rfl rfl tr ⟨rfl,nle⟩ ⟨⟨rfl,tr⟩,⟨⟨rfl,tr⟩,tr⟩⟩ rfl)<|dk<|a0s<|?_
      obtain ⟨H,er49,hc1⟩:=ob hc1
      obtain ⟨g50,hc1⟩:=og hc1
      refine l7 (.own 2 0 D.length) rfl<|x8 (.ptr 0 0 3) rfl tr rfl<|x8 (.lst 1 (A.Columns.map AV.str)) rfl nle rfl<|x8 (.agg [(.I U.Id),(.lst 1 (U.Cells.map (a1q 3 o6)))]) rfl nle rfl<|x9 (a2z (v:=(.agg [(.I H.Kind),(.I H.N),(.str H.T),(.own 4 0 H.Keys.length),(.own 5 0 H.Items.length)])) (h':=[.row 1 (H.Keys.map AV.str),.row 5 (H.Items.map l9)]) (c9g _ _ _ er49) rfl .r (by simp only [a2f,a2a,List.length_map,o8,List.nil_append,List.append_nil,List.cons_append];rfl))<|?_;refine x9 (a0o (j:=6) (as':=[(l9 H)]) rfl (fun _ => by decide) ⟨rfl,tr⟩ (.cons (leJ (x:=H) (.agg (.cons .r (.cons .r (.cons .r (.cons (.of_eq (congrArg (AV.lst _) (tk (enc:=AV.str) H.Keys))) (.cons (.of_eq (congrArg (AV.lst _) (tk (enc:=l9) H.Items))) .nil))))))) .nil) rfl rfl rfl) ?_
      refine x9 (a4e (j:=7) (L:=((D ++ [H]).map l9)) (len:=(D ++ [H]).length) rfl true rfl rfl (fun h => Bool.noConfusion h) (fun _ _ h => (e0o (show AV.own _ _ _ = AV.lst _ _ from h)).elim) (by decide) (c4p (enc:=l9) D [H] _ (by rfl)) (by simp <;> omega) g50 rfl rfl) ?_
      refine l7 (.own 7 0 ((D ++ [H]).length)) rfl<|a0h<|a2v<|a0i<|a0s<|x8 (.I (w64 ((R:Int) + 1))) rfl rfl rfl<|l7 (.I (w64 ((R:Int) + 1))) rfl<|a0h<|?_;exact a1m ⟨((R + 1),D ++ [H]),hc1⟩ (mul hlt41) ⟨[],[0,1,7],_,_,rfl,rfl,⟨.r,⟨.r,⟨.r,⟨.r,⟨.r,⟨.of_eq (congrArg (AV.int _) (a1p hlt41 hl16)),tr⟩⟩⟩⟩⟩⟩,.r⟩
    ·refine sr<|?_
     obtain ⟨O,er52,hf⟩:=ob hf
     obtain ⟨F,er54,hf⟩:=ob hf
     refine x9 (a0o (j:=2) (as':=[(.str [114,111,119,115])]) rfl (fun _ => by decide) ⟨rfl,tr⟩ .r rfl rfl rfl) ?_;refine l7 (.own 1 0 M.length) rfl ?_;refine x9 (a7q (v:=(.agg [(.I O.Kind),(.I O.N),(.str O.T),(.own 3 0 O.Keys.length),(.own 4 0 O.Items.length)])) (h2:=[.box 5 (.agg [(.I 0),(.I 0),(.str []),.nil,.nil]),.dead,.row 1 ([[114,111,119,115]].map AV.str),.row 1 (O.Keys.map AV.str),.row 5 (O.Items.map l9)]) [] [1] (fun _ => rfl) (b7m _ _ er52) rfl .r .r rfl rfl) ?_;refine x9 (a0o (j:=5) (as':=[(l9 O)]) rfl (fun _ => by decide) ⟨rfl,tr⟩ (.cons (leJ (x:=O) (.agg (.cons .r (.cons .r (.cons .r (.cons (.of_eq (congrArg (AV.lst _) (tk (enc:=AV.str) O.Keys))) (.cons (.of_eq (congrArg (AV.lst _) (tk (enc:=l9) O.Items))) .nil))))))) .nil) rfl rfl rfl) ?_
     refine x9 (a7q (v:=(.agg [(.I F.Kind),(.I F.N),(.str F.T),(.own 6 0 F.Keys.length),(.own 7 0 F.Items.length)])) (h2:=[.box 5 (.agg [(.I 0),(.I 0),(.str []),.nil,.nil]),.dead,.dead,.dead,.dead,.dead,.row 1 (F.Keys.map AV.str),.row 5 (F.Items.map l9)]) [] [2,5] (fun _ => rfl) (a7o _ _ _ er54) rfl (.cons (.of_eq (congrArg (AV.own _ 0) (by simp))) (.cons (.of_eq (congrArg (AV.own _ 0) (by simp))) .nil)) .r rfl rfl) ?_;refine a1v (a0f (v:=(.agg [(.I F.Kind),(.I F.N),(.str F.T),(.own 6 0 F.Keys.length),(.own 7 0 F.Items.length)])) (y':=(.agg [(.I F.Kind),(.I F.N),(.str F.T),(.own 6 0 F.Keys.length),(.own 7 0 F.Items.length)])) rfl rfl rfl tr ⟨rfl,nle⟩ ⟨⟨rfl,tr⟩,⟨⟨rfl,tr⟩,⟨⟨rfl,tr⟩,⟨⟨rfl,tr⟩,⟨⟨rfl,tr⟩,tr⟩⟩⟩⟩⟩ rfl) ?_
     refine dk<|a0e<|?_;obtain rfl:=os hf;exact a2m ⟨nle,tr⟩ rfl (by decide) (leJ (x:=F) (.agg (.cons .r (.cons .r (.cons .r (.cons (.of_eq (congrArg (AV.lst _) (tk (enc:=AV.str) F.Keys))) (.cons (.of_eq (congrArg (AV.lst _) (tk (enc:=l9) F.Items))) .nil)))))))
   ·refine y9 rfl (bf c15)<|o7<|?_
    obtain ⟨V,hb1,hf⟩:=ob hf
    refine a1s ([(3,(.ptr 0 0 0)),(4,(.ptr 1 0 0)),(51,(.bool V))],[.box 5 (.agg [(.I A.Code),(.I A.Count),(.I A.Id),(.lst 1 (A.Columns.map AV.str)),(.lst 2 (A.Rows.map y5))]),.box 5 (.agg [(.I 0),(.I 0),(.str []),.nil,.nil])]) ?_ ?_
    ·refine sr<|x8 (.bool (B == 3)) rfl rfl rfl<|l7 (.bool (B == 3)) rfl<|dk<|?_
     rcases oi hb1 with ⟨c59,hb1⟩ | ⟨c59,hb1⟩
     ·refine y8 rfl c59<|a0j<|?_;obtain rfl:=os hb1;exact ⟨[],[0,1],_,_,rfl,rfl,⟨.r,⟨.r,⟨.r,tr⟩⟩⟩,.r⟩
     ·refine y9 rfl (bf c59)<|sr<|x8 (.bool (B == 4)) rfl rfl rfl<|l7 (.bool (B == 4)) rfl<|dk<|?_
      rcases oi hb1 with ⟨c60,hb1⟩ | ⟨c60,hb1⟩
      ·refine y8 rfl c60<|a0j<|?_;obtain rfl:=os hb1;exact ⟨[],[0,1],_,_,rfl,rfl,⟨.r,⟨.r,⟨.r,tr⟩⟩⟩,.r⟩
      ·refine y9 rfl (bf c60)<|a0s<|x8 (.bool (B == 5)) rfl rfl rfl<|l7 (.bool (B == 5)) rfl<|a0h<|?_;obtain rfl:=os hb1;exact ⟨[],[0,1],_,_,rfl,rfl,⟨.r,⟨.r,⟨.r,tr⟩⟩⟩,.r⟩
    ·rcases oi hf with ⟨c61,hf⟩ | ⟨c61,hf⟩
     ·refine y8 rfl c61<|sr<|?_
      obtain ⟨P,er63,hf⟩:=ob hf
      obtain ⟨G,er65,hf⟩:=ob hf
      refine x9 (a0o (j:=2) (as':=[(.str [99,111,117,110,116])]) rfl (fun _ => by decide) ⟨rfl,tr⟩ .r rfl rfl rfl) ?_;refine x8 (.ptr 0 0 1) rfl tr rfl<|x8 (.I A.Count) rfl nle rfl<|x9 (a2z (v:=(.agg [(.I P.Kind),(.I P.N),(.str P.T),(.own 3 0 P.Keys.length),(.own 4 0 P.Items.length)])) (h':=[.row 1 (P.Keys.map AV.str),.row 5 (P.Items.map l9)]) (b5c _ _ er63) rfl .r (by simp only [a2f,a2a,List.length_map,o8,List.nil_append,List.append_nil,List.cons_append];rfl))<|?_;refine x9 (a0o (j:=5) (as':=[(l9 P)]) rfl (fun _ => by decide) ⟨rfl,tr⟩ (.cons (leJ (x:=P) (.agg (.cons .r (.cons .r (.cons .r (.cons (.of_eq (congrArg (AV.lst _) (tk (enc:=AV.str) P.Keys))) (.cons (.of_eq (congrArg (AV.lst _) (tk (enc:=l9) P.Items))) .nil))))))) .nil) rfl rfl rfl) ?_
      refine x9 (a7q (v:=(.agg [(.I G.Kind),(.I G.N),(.str G.T),(.own 6 0 G.Keys.length),(.own 7 0 G.Items.length)])) (h2:=[.box 5 (.agg [(.I A.Code),(.I A.Count),(.I A.Id),(.lst 1 (A.Columns.map AV.str)),(.lst 2 (A.Rows.map y5))]),.box 5 (.agg [(.I 0),(.I 0),(.str []),.nil,.nil]),.dead,.dead,.dead,.dead,.row 1 (G.Keys.map AV.str),.row 5 (G.Items.map l9)]) [] [2,5] (fun _ => rfl) (a7o _ _ _ er65) rfl (.cons (.of_eq (congrArg (AV.own _ 0) (by simp))) (.cons (.of_eq (congrArg (AV.own _ 0) (by simp))) .nil)) .r rfl rfl) ?_;refine a1v (a0f (v:=(.agg [(.I G.Kind),(.I G.N),(.str G.T),(.own 6 0 G.Keys.length),(.own 7 0 G.Items.length)])) (y':=(.agg [(.I G.Kind),(.I G.N),(.str G.T),(.own 6 0 G.Keys.length),(.own 7 0 G.Items.length)])) rfl rfl rfl tr ⟨rfl,nle⟩ ⟨⟨rfl,tr⟩,⟨⟨rfl,tr⟩,⟨⟨rfl,tr⟩,⟨⟨rfl,tr⟩,⟨⟨rfl,tr⟩,tr⟩⟩⟩⟩⟩ rfl) ?_
      refine dk<|a0e<|?_;obtain rfl:=os hf;exact a2m ⟨nle,tr⟩ rfl (by decide) (leJ (x:=G) (.agg (.cons .r (.cons .r (.cons .r (.cons (.of_eq (congrArg (AV.lst _) (tk (enc:=AV.str) G.Keys))) (.cons (.of_eq (congrArg (AV.lst _) (tk (enc:=l9) G.Items))) .nil)))))))
     ·refine y9 rfl (bf c61)<|a0j<|a2v<|a0i<|sr<|x8 (.agg [(.I 5),(.I 0),(.str []),.nil,.nil]) rfl ⟨⟨rfl,nle,tr⟩,tr⟩ rfl<|a1v (a0f (v:=(.agg [(.I 5),(.I 0),(.str []),.nil,.nil])) (y':=(.agg [(.I 5),(.I 0),(.str []),.nil,.nil])) rfl rfl rfl tr ⟨rfl,nle⟩ ⟨⟨rfl,tr⟩,⟨⟨rfl,tr⟩,⟨⟨rfl,tr⟩,⟨⟨rfl,tr⟩,⟨⟨rfl,tr⟩,tr⟩⟩⟩⟩⟩ rfl)<|dk<|a0e<|?_;obtain rfl:=os hf;exact a2m ⟨nle,tr⟩ rfl (by decide) (leJ (x:=(⟨5,0,[],[],[]⟩:o9)) (.agg (.cons .r (.cons .r (.cons .r (.cons (.nil _) (.cons (.nil _) .nil)))))))

/- impl.areKeys -/
def f2g:a0m :=
 (.seq (.reg (tm 2 (.c (.bool false)) .done))
 (.seq (.seq (.reg (tm 5 (.t 0) (tq 6 (.len (.t 5)) (tm 7 (.c (.int .i64 0)) .done))))
 (.block 0 (.loop (.seq (.reg (tq 8 (.bin .lss (.t 7) (.t 6)) .done))
 (.seq (.cond (.t 8) .skip
 (.exit 0))
 (.seq (.block 1 (.seq (.reg (tm 9 (.t 7) (tq 10 (.iaddr 1 (.t 5) (.t 7)) (tq 11 (.load 1 false (.t 10)) (tm 3 (.t 9) (tm 4 (.t 11) .done))))))
 (.seq (.reg (tm 12 (.t 4) (tq 13 (.call 234 [(.t 12)]) (tq 14 (.not (.t 13)) (tm 15 (.t 14) (tg 16 15 false (.mov (.t 3)) (tg 17 15 false (.bin .gtr (.t 16) (.c (.int .i64 0))) (tg 18 15 false (.mov (.t 17)) (tg 19 18 true (.mov (.t 0)) (tg 20 18 true (.mov (.t 3)) (tg 21 18 true (.bin .sub (.t 20) (.c (.int .i64 1))) (tg 22 18 true (.iaddr 1 (.t 19) (.t 21)) (tg 23 18 true (.load 1 false (.t 22)) (tg 24 18 true (.mov (.t 4)) (tg 25 18 true (.bin .geq (.t 23) (.t 24)) (tg 26 15 false (.pick (.t 18) (.t 25) (.c (.bool false))) (tq 27 (.pick (.t 15) (.c (.bool true)) (.t 26)) .done)))))))))))))))))
 (.cut (.cond (.t 27) (.seq (.reg (tm 2 (.c (.bool false)) .done))
 .ret)
 .skip)))))
 (.reg (tq 28 (.bin .add (.t 7) (.c (.int .i64 1))) (tm 7 (.t 28) .done)))))))))
 (.cut (.seq (.reg (tm 2 (.c (.bool true)) .done))
 .ret))))
theorem f2h:a1b Tryz.prog Tryz.f349 = some (f2g.erase,[.mov (.t 2)],29):=by kernel_rfl
def a4d (A:(List Str)):List Str → Nat → Option (Fl Bool Unit)
  | [],B =>
    some (.go ())
  | D :: xs,B =>
    (((a8t D).bind fun G =>
    if (!G) then
    some true
    else
    if (decide ((B:Int) > 0)) then
    (idx A (w64 ((B:Int) - 1))).bind fun E =>
    some (!Op.bytesLess E D)
    else
    some false:Option Bool)).bind fun F =>
    if F then
    some (.ret false)
    else
    a4d A xs (B + 1)

def b3c (A:(List Str)):Option Bool :=
    (a4d A A 0).bind fun q => (match q with
    | .ret r => some r
    | .go _ =>
    some true)
theorem c9h (A:(List Str)) (r:Bool) (hf:b3c A = some r):a0a Tryz.prog 349 .flat [(.lst 1 (A.map AV.str))] (.bool r):=by
 refine a0a.of_awp mixed Tryz.func349 f2h nle ?_;rw [a0l];unfold b3c at hf;unfold f2g;refine (show awp Tryz.prog false 0 _ (ofL [(0,(.lst 1 (A.map AV.str)))]) [] _ from ?_);refine sr<|l7 (.bool false) rfl<|dk<|o7<|sr<|l7 (.lst 1 (A.map AV.str)) rfl<|a0y (a1o (enc:=AV.str) rfl) fun hl2 => l7 (.I 0) rfl<|dk<|?_
 obtain ⟨p53,hb1,hf⟩:=ob hf
 refine a3j (X:={q:Unit // p53 = .go q}) (fun q => ([],[])) ?_ ?_
 ·refine a1f (X:={q:Nat // a4d A (A.drop q) q = some p53}) (fun q => ([(0,(.lst 1 (A.map AV.str))),(5,(.lst 1 (A.map AV.str))),(6,(.I (A.length:Int))),(7,(.I (q.1:Int)))],[])) (fun q => A.length - q.1) ⟨0,hb1⟩ ⟨[],[],_,_,rfl,rfl,⟨.r,⟨.r,⟨.r,⟨.r,tr⟩⟩⟩⟩,.r⟩ ?_
  rintro ⟨B,hc1⟩
  have hc1:a4d A (A.drop B) B = some p53:=hc1
  refine (show awp Tryz.prog false 0 _ (ofL [(0,(.lst 1 (A.map AV.str))),(5,(.lst 1 (A.map AV.str))),(6,(.I (A.length:Int))),(7,(.I (B:Int)))]) [] _ from ?_)
  rcases a5n A B with ⟨hie56,hd59⟩ | ⟨hlt54,D,hx55,hd59⟩
  ·rw [hd59,a4d.eq_1] at hc1
   have hq58:=dlf hie56
   refine sr<|x8 (.bool (decide ((B:Int) < (A.length:Int)))) rfl rfl rfl<|dk<|o7<|y9 rfl hq58<|a2l<|a2k<|a1t<|a2j<|?_;obtain rfl:=os hc1;exact a6i ⟨_,rfl⟩ ⟨[],[],_,_,rfl,rfl,tr,.r⟩
  ·rw [hd59,a4d.eq_2] at hc1
   have hq58:=dlt hlt54
   refine sr<|x8 (.bool (decide ((B:Int) < (A.length:Int)))) rfl rfl rfl<|dk<|o7<|y8 rfl hq58<|a0j<|a0i<|o7<|a2x<|sr<|l7 (.I (B:Int)) rfl<|x9 (a1n (enc:=AV.str) rfl rfl hx55)<|x8 (.str D) rfl ⟨rfl,rfl⟩ rfl<|l7 (.I (B:Int)) rfl<|l7 (.str D) rfl<|dk<|o7<|?_
   obtain ⟨F,hb2,hc1⟩:=ob hc1
   refine a1s ([(0,(.lst 1 (A.map AV.str))),(5,(.lst 1 (A.map AV.str))),(6,(.I (A.length:Int))),(7,(.I (B:Int))),(27,(.bool F))],[]) ?_ ?_
   ·refine a0s<|l7 (.str D) rfl<|?_
    obtain ⟨G,er70,hb2⟩:=ob hb2
    refine x9 (a0n (b6d _ _ er70) rfl .r rfl)<|x8 (.bool (!G)) rfl tr rfl<|l7 (.bool (!G)) rfl<|?_
    rcases oi hb2 with ⟨c71,hb2⟩ | ⟨c71,hb2⟩
    ·refine a1g (s:=15) (b:=true) rfl c71<|a0d rfl rfl<|a0d rfl rfl<|a0d rfl rfl<|a1k rfl<|a1k rfl<|a1k rfl<|a1k rfl<|a1k rfl<|a1k rfl<|a1k rfl<|a0d rfl rfl<|x8 (.bool true) rfl tr rfl<|a0h<|?_;obtain rfl:=os hb2;exact ⟨[],[],_,_,rfl,rfl,⟨.r,⟨.r,⟨.r,⟨.r,⟨.r,tr⟩⟩⟩⟩⟩,.r⟩
    ·refine a1g (s:=15) (b:=false) rfl (bf c71)<|s_on rfl<|l7 (.I (B:Int)) rfl<|s_on rfl<|x8 (.bool (decide ((B:Int) > 0))) rfl rfl rfl<|s_on rfl<|l7 (.bool (decide ((B:Int) > 0))) rfl<|?_
     rcases oi hb2 with ⟨c72,hb2⟩ | ⟨c72,hb2⟩
     ·refine a1g (s:=18) (b:=true) rfl c72<|s_on rfl<|l7 (.lst 1 (A.map AV.str)) rfl<|s_on rfl<|l7 (.I (B:Int)) rfl<|s_on rfl<|x8 (.I (w64 ((B:Int) - 1))) rfl rfl rfl<|s_on rfl<|?_
      obtain ⟨E,ex74,hb2⟩:=ob hb2
      refine x9 (a6s (enc:=AV.str) rfl rfl (b3m ex74) (b3n ex74))<|s_on rfl<|x8 (.str E) rfl ⟨rfl,rfl⟩ rfl<|s_on rfl<|l7 (.str D) rfl<|s_on rfl<|x8 (.bool (!Op.bytesLess E D)) rfl tr rfl<|s_on rfl<|x8 (.bool (!Op.bytesLess E D)) rfl tr rfl<|x8 (.bool (!Op.bytesLess E D)) rfl tr rfl<|a0h<|?_;obtain rfl:=os hb2;exact ⟨[],[],_,_,rfl,rfl,⟨.r,⟨.r,⟨.r,⟨.r,⟨.r,tr⟩⟩⟩⟩⟩,.r⟩
     ·refine a1g (s:=18) (b:=false) rfl (bf c72)<|a0d rfl rfl<|a0d rfl rfl<|a0d rfl rfl<|a0d rfl rfl<|a0d rfl rfl<|a0d rfl rfl<|a0d rfl rfl<|s_on rfl<|x8 (.bool false) rfl tr rfl<|x8 (.bool false) rfl tr rfl<|a0h<|?_;obtain rfl:=os hb2;exact ⟨[],[],_,_,rfl,rfl,⟨.r,⟨.r,⟨.r,⟨.r,⟨.r,tr⟩⟩⟩⟩⟩,.r⟩
   ·rcases oi hc1 with ⟨c75,hc1⟩ | ⟨c75,hc1⟩
    ·refine y8 rfl c75<|sr<|l7 (.bool false) rfl<|dk<|a0e<|?_;obtain rfl:=os hc1;obtain rfl:=os hf;exact a0g ⟨tr,tr⟩ rfl .r
    ·refine y9 rfl (bf c75)<|a0j<|a2v<|a0i<|a0s<|x8 (.I (w64 ((B:Int) + 1))) rfl rfl rfl<|l7 (.I (w64 ((B:Int) + 1))) rfl<|a0h<|?_;exact a1m ⟨(B + 1),hc1⟩ (mul hlt54) ⟨[],[],_,_,rfl,rfl,⟨.r,⟨.r,⟨.r,⟨.of_eq (congrArg (AV.int _) (a1p hlt54 hl2)),tr⟩⟩⟩⟩,.r⟩
 ·rintro ⟨_,rfl⟩
  refine sr<|l7 (.bool true) rfl<|dk<|a0e<|?_;obtain rfl:=os hf;exact a0g ⟨tr,tr⟩ rfl .r

/- (impl.Json).partOK -/
def f2i:a0m :=
 (.seq (.reg (tq 1 (.box 5 (.t 0)) (tm 2 (.c (.bool false)) .done)))
 (.seq (.seq (.reg (tq 3 (.faddr 0 (.t 1)) (tq 4 (.load 1 false (.t 3)) .done)))
 (.block 0 (.seq (.reg (tq 6 (.bin .eql (.t 4) (.c (.int .i64 0))) (tm 5 (.t 6) .done)))
 (.cond (.t 5) (.seq (.reg (tq 7 (.faddr 1 (.t 1)) (tq 8 (.load 1 false (.t 7)) (tq 9 (.bin .eql (.t 8) (.c (.int .i64 0))) (tm 10 (.t 9) (tg 11 10 true (.faddr 2 (.t 1)) (tg 12 10 true (.load 1 false (.t 11)) (tg 13 10 true (.bin .eql (.t 12) (.c (.str []))) (tq 14 (.pick (.t 10) (.t 13) (.c (.bool false))) (tm 15 (.t 14) (tg 16 15 true (.faddr 3 (.t 1)) (tg 17 15 true (.load 1 false (.t 16)) (tg 18 15 true (.len (.t 17)) (tg 19 15 true (.bin .eql (.t 18) (.c (.int .i64 0))) (tq 20 (.pick (.t 15) (.t 19) (.c (.bool false))) (tm 21 (.t 20) (tg 22 21 true (.faddr 4 (.t 1)) (tg 23 21 true (.load 1 false (.t 22)) (tg 24 21 true (.len (.t 23)) (tg 25 21 true (.bin .eql (.t 24) (.c (.int .i64 0))) (tq 26 (.pick (.t 21) (.t 25) (.c (.bool false))) (tm 2 (.t 26) .done))))))))))))))))))))))
 .ret)
 (.seq (.reg (tq 28 (.bin .eql (.t 4) (.c (.int .i64 1))) (tm 27 (.t 28) .done)))
 (.cond (.t 27) (.seq (.reg (tq 29 (.faddr 1 (.t 1)) (tq 30 (.load 1 false (.t 29)) (tq 31 (.call 81 [(.t 30),(.c (.int .i64 0)),(.c (.int .i64 1))]) (tm 32 (.t 31) (tg 33 32 true (.faddr 2 (.t 1)) (tg 34 32 true (.load 1 false (.t 33)) (tg 35 32 true (.bin .eql (.t 34) (.c (.str []))) (tq 36 (.pick (.t 32) (.t 35) (.c (.bool false))) (tm 37 (.t 36) (tg 38 37 true (.faddr 3 (.t 1)) (tg 39 37 true (.load 1 false (.t 38)) (tg 40 37 true (.len (.t 39)) (tg 41 37 true (.bin .eql (.t 40) (.c (.int .i64 0))) (tq 42 (.pick (.t 37) (.t 41) (.c (.bool false))) (tm 43 (.t 42) (tg 44 43 true (.faddr 4 (.t 1)) (tg 45 43 true (.load 1 false (.t 44)) (tg 46 43 true (.len (.t 45)) (tg 47 43 true (.bin .eql (.t 46) (.c (.int .i64 0))) (tq 48 (.pick (.t 43) (.t 47) (.c (.bool false))) (tm 2 (.t 48) .done))))))))))))))))))))))
 .ret)
 (.seq (.reg (tq 50 (.bin .eql (.t 4) (.c (.int .i64 2))) (tm 49 (.t 50) .done)))
 (.cond (.t 49) (.seq (.reg (tq 51 (.faddr 1 (.t 1)) (tq 52 (.load 1 false (.t 51)) (tq 53 (.call 233 [(.t 52)]) (tm 54 (.t 53) (tg 55 54 true (.faddr 2 (.t 1)) (tg 56 54 true (.load 1 false (.t 55)) (tg 57 54 true (.bin .eql (.t 56) (.c (.str []))) (tq 58 (.pick (.t 54) (.t 57) (.c (.bool false))) (tm 59 (.t 58) (tg 60 59 true (.faddr 3 (.t 1)) (tg 61 59 true (.load 1 false (.t 60)) (tg 62 59 true (.len (.t 61)) (tg 63 59 true (.bin .eql (.t 62) (.c (.int .i64 0))) (tq 64 (.pick (.t 59) (.t 63) (.c (.bool false))) (tm 65 (.t 64) (tg 66 65 true (.faddr 4 (.t 1)) (tg 67 65 true (.load 1 false (.t 66)) (tg 68 65 true (.len (.t 67)) (tg 69 65 true (.bin .eql (.t 68) (.c (.int .i64 0))) (tq 70 (.pick (.t 65) (.t 69) (.c (.bool false))) (tm 2 (.t 70) .done))))))))))))))))))))))
 .ret)
 (.seq (.reg (tq 72 (.bin .eql (.t 4) (.c (.int .i64 3))) (tm 71 (.t 72) .done)))
 (.cond (.t 71) (.seq (.reg (tq 73 (.faddr 1 (.t 1)) (tq 74 (.load 1 false (.t 73)) (tq 75 (.bin .eql (.t 74) (.c (.int .i64 0))) (tm 76 (.t 75) (tg 77 76 true (.faddr 2 (.t 1)) (tg 78 76 true (.load 1 false (.t 77)) (tg 79 76 true (.call 234 [(.t 78)]) (tq 80 (.pick (.t 76) (.t 79) (.c (.bool false))) (tm 81 (.t 80) (tg 82 81 true (.faddr 3 (.t 1)) (tg 83 81 true (.load 1 false (.t 82)) (tg 84 81 true (.len (.t 83)) (tg 85 81 true (.bin .eql (.t 84) (.c (.int .i64 0))) (tq 86 (.pick (.t 81) (.t 85) (.c (.bool false))) (tm 87 (.t 86) (tg 88 87 true (.faddr 4 (.t 1)) (tg 89 87 true (.load 1 false (.t 88)) (tg 90 87 true (.len (.t 89)) (tg 91 87 true (.bin .eql (.t 90) (.c (.int .i64 0))) (tq 92 (.pick (.t 87) (.t 91) (.c (.bool false))) (tm 2 (.t 92) .done))))))))))))))))))))))
 .ret)
 (.seq (.reg (tq 94 (.bin .eql (.t 4) (.c (.int .i64 4))) (tm 93 (.t 94) .done)))
 (.cond (.t 93) (.seq (.reg (tq 95 (.faddr 1 (.t 1)) (tq 96 (.load 1 false (.t 95)) (tq 97 (.bin .eql (.t 96) (.c (.int .i64 0))) (tm 98 (.t 97) (tg 99 98 true (.faddr 2 (.t 1)) (tg 100 98 true (.load 1 false (.t 99)) (tg 101 98 true (.bin .eql (.t 100) (.c (.str []))) (tq 102 (.pick (.t 98) (.t 101) (.c (.bool false))) (tm 103 (.t 102) (tg 104 103 true (.faddr 3 (.t 1)) (tg 105 103 true (.load 1 false (.t 104)) (tg 106 103 true (.len (.t 105)) (tg 107 103 true (.bin .eql (.t 106) (.c (.int .i64 0))) (tq 108 (.pick (.t 103) (.t 107) (.c (.bool false))) (tm 2 (.t 108) .done))))))))))))))))
 .ret)
 (.seq (.reg (tq 110 (.bin .eql (.t 4) (.c (.int .i64 5))) (tm 109 (.t 110) .done)))
 (.cond (.t 109) (.seq (.reg (tq 111 (.faddr 1 (.t 1)) (tq 112 (.load 1 false (.t 111)) (tq 113 (.bin .eql (.t 112) (.c (.int .i64 0))) (tm 114 (.t 113) (tg 115 114 true (.faddr 2 (.t 1)) (tg 116 114 true (.load 1 false (.t 115)) (tg 117 114 true (.bin .eql (.t 116) (.c (.str []))) (tq 118 (.pick (.t 114) (.t 117) (.c (.bool false))) (tm 119 (.t 118) (tg 120 119 true (.faddr 3 (.t 1)) (tg 121 119 true (.load 1 false (.t 120)) (tg 122 119 true (.len (.t 121)) (tg 123 119 true (.faddr 4 (.t 1)) (tg 124 119 true (.load 1 false (.t 123)) (tg 125 119 true (.len (.t 124)) (tg 126 119 true (.bin .eql (.t 122) (.t 125)) (tq 127 (.pick (.t 119) (.t 126) (.c (.bool false))) (tm 128 (.t 127) (tg 129 128 true (.faddr 3 (.t 1)) (tg 130 128 true (.load 1 false (.t 129)) (tg 131 128 true (.call 349 [(.t 130)]) (tq 132 (.pick (.t 128) (.t 131) (.c (.bool false))) (tm 2 (.t 132) .done))))))))))))))))))))))))
 .ret)
 .skip))))))))))))))
 (.seq (.reg (tm 2 (.c (.bool false)) .done))
 .ret)))
theorem f2j:a1b Tryz.prog Tryz.f300 = some (f2i.erase,[.mov (.t 2)],133):=by kernel_rfl
def a8m (A:o9):Option Bool :=
    if (A.Kind == 0) then
    some (bif (bif (bif (A.N == 0) then (A.T == []) else false) then ((A.Keys.length:Int) == 0) else false) then ((A.Items.length:Int) == 0) else false)
    else
    if (A.Kind == 1) then
    (a4u A.N 0 1).bind fun E =>
    some (bif (bif (bif E then (A.T == []) else false) then ((A.Keys.length:Int) == 0) else false) then ((A.Items.length:Int) == 0) else false)
    else
    if (A.Kind == 2) then
    (a9h A.N).bind fun B =>
    some (bif (bif (bif B then (A.T == []) else false) then ((A.Keys.length:Int) == 0) else false) then ((A.Items.length:Int) == 0) else false)
    else
    if (A.Kind == 3) then
    if (A.N == 0) then
    (a8t A.T).bind fun D =>
    some (bif (bif D then ((A.Keys.length:Int) == 0) else false) then ((A.Items.length:Int) == 0) else false)
    else
    some false
    else
    if (A.Kind == 4) then
    some (bif (bif (A.N == 0) then (A.T == []) else false) then ((A.Keys.length:Int) == 0) else false)
    else
    if (A.Kind == 5) then
    if (bif (bif (A.N == 0) then (A.T == []) else false) then ((A.Keys.length:Int) == (A.Items.length:Int)) else false) then
    (b3c A.Keys).bind fun F =>
    some F
    else
    some false
    else
    some false
theorem c1x (A:o9) (r:Bool) (hf:a8m A = some r):a0a Tryz.prog 300 .flat [(l9 A)] (.bool r):=by
 refine a0a.of_awp mixed Tryz.func300 f2j nle ?_;rw [a0l];rw [o8 A];unfold a8m at hf;unfold f2i;refine (show awp Tryz.prog false 0 _ (ofL [(0,(.agg [(.I A.Kind),(.I A.N),(.str A.T),(.lst 1 (A.Keys.map AV.str)),(.lst 5 (A.Items.map l9))]))]) [] _ from ?_);refine sr<|x9 (a1j (j:=0) (c:=(.agg [(.I A.Kind),(.I A.N),(.str A.T),(.lst 1 (A.Keys.map AV.str)),(.lst 5 (A.Items.map l9))])) rfl tr rfl rfl)<|l7 (.bool false) rfl<|dk<|o7<|sr<|x8 (.ptr 0 0 0) rfl tr rfl<|x8 (.I A.Kind) rfl nle rfl<|dk<|a2x<|sr<|?_
 refine x8 (.bool (A.Kind == 0)) rfl rfl rfl<|l7 (.bool (A.Kind == 0)) rfl<|dk<|?_
 rcases oi hf with ⟨c2,hf⟩ | ⟨c2,hf⟩
 ·refine y8 rfl c2<|sr<|x8 (.ptr 0 0 1) rfl tr rfl<|x8 (.I A.N) rfl nle rfl<|x8 (.bool (A.N == 0)) rfl rfl rfl<|l7 (.bool (A.N == 0)) rfl<|?_;refine s_g (v:=(A.N == 0)) (.ptr 0 0 2) rfl (fun hv => by (try simp only [y7 hv]);exact ⟨rfl,tr,rfl⟩) ?_;refine s_g (v:=(A.N == 0)) (.str A.T) rfl (fun hv => by (try simp only [y7 hv]);exact ⟨rfl,nle,rfl⟩) ?_;refine s_g (v:=(A.N == 0)) (.bool (A.T == [])) rfl (fun hv => by (try simp only [y7 hv]);exact ⟨rfl,tr,rfl⟩) ?_;refine a3c (x:=(A.T == [])) (y:=false) rfl (fun hv => by (try simp only [y7 hv]);rfl) (fun hv => by (try simp only [y7 hv]);rfl) ?_;refine l7 (.bool (bif (A.N == 0) then (A.T == []) else false)) rfl ?_
  refine s_g (v:=(bif (A.N == 0) then (A.T == []) else false)) (.ptr 0 0 3) rfl (fun hv => by (try simp only [y7 hv]);exact ⟨rfl,tr,rfl⟩) ?_;refine s_g (v:=(bif (A.N == 0) then (A.T == []) else false)) (.lst 1 (A.Keys.map AV.str)) rfl (fun hv => by (try simp only [y7 hv]);exact ⟨rfl,nle,rfl⟩) ?_;refine s_g (v:=(bif (A.N == 0) then (A.T == []) else false)) (.I (A.Keys.length:Int)) rfl (fun hv => by (try simp only [y7 hv]);exact ⟨rfl,tr,lenV _ _⟩) ?_;refine s_g (v:=(bif (A.N == 0) then (A.T == []) else false)) (.bool ((A.Keys.length:Int) == 0)) rfl (fun hv => by (try simp only [y7 hv]);exact ⟨rfl,rfl,rfl⟩) ?_;refine a3c (x:=((A.Keys.length:Int) == 0)) (y:=false) rfl (fun hv => by (try simp only [y7 hv]);rfl) (fun hv => by (try simp only [y7 hv]);rfl) ?_
  refine l7 (.bool (bif (bif (A.N == 0) then (A.T == []) else false) then ((A.Keys.length:Int) == 0) else false)) rfl ?_;refine s_g (v:=(bif (bif (A.N == 0) then (A.T == []) else false) then ((A.Keys.length:Int) == 0) else false)) (.ptr 0 0 4) rfl (fun hv => by (try simp only [y7 hv]);exact ⟨rfl,tr,rfl⟩) ?_;refine s_g (v:=(bif (bif (A.N == 0) then (A.T == []) else false) then ((A.Keys.length:Int) == 0) else false)) (.lst 5 (A.Items.map l9)) rfl (fun hv => by (try simp only [y7 hv]);exact ⟨rfl,nle,rfl⟩) ?_;refine s_g (v:=(bif (bif (A.N == 0) then (A.T == []) else false) then ((A.Keys.length:Int) == 0) else false)) (.I (A.Items.length:Int)) rfl (fun hv => by (try simp only [y7 hv]);exact ⟨rfl,tr,lenV _ _⟩) ?_
  refine s_g (v:=(bif (bif (A.N == 0) then (A.T == []) else false) then ((A.Keys.length:Int) == 0) else false)) (.bool ((A.Items.length:Int) == 0)) rfl (fun hv => by (try simp only [y7 hv]);exact ⟨rfl,rfl,rfl⟩) ?_;refine a3c (x:=((A.Items.length:Int) == 0)) (y:=false) rfl (fun hv => by (try simp only [y7 hv]);rfl) (fun hv => by (try simp only [y7 hv]);rfl) ?_;refine l7 (.bool (bif (bif (bif (A.N == 0) then (A.T == []) else false) then ((A.Keys.length:Int) == 0) else false) then ((A.Items.length:Int) == 0) else false)) rfl<|dk<|a0e<|?_;obtain rfl:=os hf;exact a0g ⟨tr,tr⟩ rfl .r
 ·refine y9 rfl (bf c2)<|sr<|x8 (.bool (A.Kind == 1)) rfl rfl rfl<|l7 (.bool (A.Kind == 1)) rfl<|dk<|?_
  rcases oi hf with ⟨c5,hf⟩ | ⟨c5,hf⟩
  ·refine y8 rfl c5<|sr<|x8 (.ptr 0 0 1) rfl tr rfl<|x8 (.I A.N) rfl nle rfl<|?_
   obtain ⟨E,er7,hf⟩:=ob hf
   refine x9 (a0n (a4c _ _ _ _ er7) rfl .r rfl)<|l7 (.bool E) rfl<|?_;refine s_g (v:=E) (.ptr 0 0 2) rfl (fun hv => by (try simp only [y7 hv]);exact ⟨rfl,tr,rfl⟩) ?_;refine s_g (v:=E) (.str A.T) rfl (fun hv => by (try simp only [y7 hv]);exact ⟨rfl,nle,rfl⟩) ?_;refine s_g (v:=E) (.bool (A.T == [])) rfl (fun hv => by (try simp only [y7 hv]);exact ⟨rfl,tr,rfl⟩) ?_;refine a3c (x:=(A.T == [])) (y:=false) rfl (fun hv => by (try simp only [y7 hv]);rfl) (fun hv => by (try simp only [y7 hv]);rfl) ?_;refine l7 (.bool (bif E then (A.T == []) else false)) rfl ?_;refine s_g (v:=(bif E then (A.T == []) else false)) (.ptr 0 0 3) rfl (fun hv => by (try simp only [y7 hv]);exact ⟨rfl,tr,rfl⟩) ?_
   refine s_g (v:=(bif E then (A.T == []) else false)) (.lst 1 (A.Keys.map AV.str)) rfl (fun hv => by (try simp only [y7 hv]);exact ⟨rfl,nle,rfl⟩) ?_;refine s_g (v:=(bif E then (A.T == []) else false)) (.I (A.Keys.length:Int)) rfl (fun hv => by (try simp only [y7 hv]);exact ⟨rfl,tr,lenV _ _⟩) ?_;refine s_g (v:=(bif E then (A.T == []) else false)) (.bool ((A.Keys.length:Int) == 0)) rfl (fun hv => by (try simp only [y7 hv]);exact ⟨rfl,rfl,rfl⟩) ?_;refine a3c (x:=((A.Keys.length:Int) == 0)) (y:=false) rfl (fun hv => by (try simp only [y7 hv]);rfl) (fun hv => by (try simp only [y7 hv]);rfl) ?_;refine l7 (.bool (bif (bif E then (A.T == []) else false) then ((A.Keys.length:Int) == 0) else false)) rfl ?_
   refine s_g (v:=(bif (bif E then (A.T == []) else false) then ((A.Keys.length:Int) == 0) else false)) (.ptr 0 0 4) rfl (fun hv => by (try simp only [y7 hv]);exact ⟨rfl,tr,rfl⟩) ?_;refine s_g (v:=(bif (bif E then (A.T == []) else false) then ((A.Keys.length:Int) == 0) else false)) (.lst 5 (A.Items.map l9)) rfl (fun hv => by (try simp only [y7 hv]);exact ⟨rfl,nle,rfl⟩) ?_;refine s_g (v:=(bif (bif E then (A.T == []) else false) then ((A.Keys.length:Int) == 0) else false)) (.I (A.Items.length:Int)) rfl (fun hv => by (try simp only [y7 hv]);exact ⟨rfl,tr,lenV _ _⟩) ?_;refine s_g (v:=(bif (bif E then (A.T == []) else false) then ((A.Keys.length:Int) == 0) else false)) (.bool ((A.Items.length:Int) == 0)) rfl (fun hv => by (try simp only [y7 hv]);exact ⟨rfl,rfl,rfl⟩) ?_
   refine a3c (x:=((A.Items.length:Int) == 0)) (y:=false) rfl (fun hv => by (try simp only [y7 hv]);rfl) (fun hv => by (try simp only [y7 hv]);rfl) ?_;refine l7 (.bool (bif (bif (bif E then (A.T == []) else false) then ((A.Keys.length:Int) == 0) else false) then ((A.Items.length:Int) == 0) else false)) rfl<|dk<|a0e<|?_;obtain rfl:=os hf;exact a0g ⟨tr,tr⟩ rfl .r
  ·refine y9 rfl (bf c5)<|sr<|x8 (.bool (A.Kind == 2)) rfl rfl rfl<|l7 (.bool (A.Kind == 2)) rfl<|dk<|?_
   rcases oi hf with ⟨c10,hf⟩ | ⟨c10,hf⟩
   ·refine y8 rfl c10<|sr<|x8 (.ptr 0 0 1) rfl tr rfl<|x8 (.I A.N) rfl nle rfl<|?_
    obtain ⟨B,er12,hf⟩:=ob hf
    refine x9 (a0n (b5b _ _ er12) rfl .r rfl)<|l7 (.bool B) rfl<|?_;refine s_g (v:=B) (.ptr 0 0 2) rfl (fun hv => by (try simp only [y7 hv]);exact ⟨rfl,tr,rfl⟩) ?_;refine s_g (v:=B) (.str A.T) rfl (fun hv => by (try simp only [y7 hv]);exact ⟨rfl,nle,rfl⟩) ?_;refine s_g (v:=B) (.bool (A.T == [])) rfl (fun hv => by (try simp only [y7 hv]);exact ⟨rfl,tr,rfl⟩) ?_;refine a3c (x:=(A.T == [])) (y:=false) rfl (fun hv => by (try simp only [y7 hv]);rfl) (fun hv => by (try simp only [y7 hv]);rfl) ?_;refine l7 (.bool (bif B then (A.T == []) else false)) rfl ?_;refine s_g (v:=(bif B then (A.T == []) else false)) (.ptr 0 0 3) rfl (fun hv => by (try simp only [y7 hv]);exact ⟨rfl,tr,rfl⟩) ?_
    refine s_g (v:=(bif B then (A.T == []) else false)) (.lst 1 (A.Keys.map AV.str)) rfl (fun hv => by (try simp only [y7 hv]);exact ⟨rfl,nle,rfl⟩) ?_;refine s_g (v:=(bif B then (A.T == []) else false)) (.I (A.Keys.length:Int)) rfl (fun hv => by (try simp only [y7 hv]);exact ⟨rfl,tr,lenV _ _⟩) ?_;refine s_g (v:=(bif B then (A.T == []) else false)) (.bool ((A.Keys.length:Int) == 0)) rfl (fun hv => by (try simp only [y7 hv]);exact ⟨rfl,rfl,rfl⟩) ?_;refine a3c (x:=((A.Keys.length:Int) == 0)) (y:=false) rfl (fun hv => by (try simp only [y7 hv]);rfl) (fun hv => by (try simp only [y7 hv]);rfl) ?_;refine l7 (.bool (bif (bif B then (A.T == []) else false) then ((A.Keys.length:Int) == 0) else false)) rfl ?_
    refine s_g (v:=(bif (bif B then (A.T == []) else false) then ((A.Keys.length:Int) == 0) else false)) (.ptr 0 0 4) rfl (fun hv => by (try simp only [y7 hv]);exact ⟨rfl,tr,rfl⟩) ?_;refine s_g (v:=(bif (bif B then (A.T == []) else false) then ((A.Keys.length:Int) == 0) else false)) (.lst 5 (A.Items.map l9)) rfl (fun hv => by (try simp only [y7 hv]);exact ⟨rfl,nle,rfl⟩) ?_;refine s_g (v:=(bif (bif B then (A.T == []) else false) then ((A.Keys.length:Int) == 0) else false)) (.I (A.Items.length:Int)) rfl (fun hv => by (try simp only [y7 hv]);exact ⟨rfl,tr,lenV _ _⟩) ?_;refine s_g (v:=(bif (bif B then (A.T == []) else false) then ((A.Keys.length:Int) == 0) else false)) (.bool ((A.Items.length:Int) == 0)) rfl (fun hv => by (try simp only [y7 hv]);exact ⟨rfl,rfl,rfl⟩) ?_
    refine a3c (x:=((A.Items.length:Int) == 0)) (y:=false) rfl (fun hv => by (try simp only [y7 hv]);rfl) (fun hv => by (try simp only [y7 hv]);rfl) ?_;refine l7 (.bool (bif (bif (bif B then (A.T == []) else false) then ((A.Keys.length:Int) == 0) else false) then ((A.Items.length:Int) == 0) else false)) rfl<|dk<|a0e<|?_;obtain rfl:=os hf;exact a0g ⟨tr,tr⟩ rfl .r
   ·refine y9 rfl (bf c10)<|sr<|x8 (.bool (A.Kind == 3)) rfl rfl rfl<|l7 (.bool (A.Kind == 3)) rfl<|dk<|?_
    rcases oi hf with ⟨c15,hf⟩ | ⟨c15,hf⟩
    ·refine y8 rfl c15<|sr<|x8 (.ptr 0 0 1) rfl tr rfl<|x8 (.I A.N) rfl nle rfl<|x8 (.bool (A.N == 0)) rfl rfl rfl<|l7 (.bool (A.N == 0)) rfl<|?_
     rcases oi hf with ⟨c16,hf⟩ | ⟨c16,hf⟩
     ·refine a1g (s:=76) (b:=true) rfl c16<|s_on rfl<|x8 (.ptr 0 0 2) rfl tr rfl<|s_on rfl<|x8 (.str A.T) rfl nle rfl<|s_on rfl<|?_
      obtain ⟨D,er18,hf⟩:=ob hf
      refine x9 (a0n (b6d _ _ er18) rfl .r rfl)<|x8 (.bool D) rfl tr rfl<|l7 (.bool D) rfl<|?_;refine s_g (v:=D) (.ptr 0 0 3) rfl (fun hv => by (try simp only [y7 hv]);exact ⟨rfl,tr,rfl⟩) ?_;refine s_g (v:=D) (.lst 1 (A.Keys.map AV.str)) rfl (fun hv => by (try simp only [y7 hv]);exact ⟨rfl,nle,rfl⟩) ?_;refine s_g (v:=D) (.I (A.Keys.length:Int)) rfl (fun hv => by (try simp only [y7 hv]);exact ⟨rfl,tr,lenV _ _⟩) ?_;refine s_g (v:=D) (.bool ((A.Keys.length:Int) == 0)) rfl (fun hv => by (try simp only [y7 hv]);exact ⟨rfl,rfl,rfl⟩) ?_;refine a3c (x:=((A.Keys.length:Int) == 0)) (y:=false) rfl (fun hv => by (try simp only [y7 hv]);rfl) (fun hv => by (try simp only [y7 hv]);rfl) ?_
      refine l7 (.bool (bif D then ((A.Keys.length:Int) == 0) else false)) rfl ?_;refine s_g (v:=(bif D then ((A.Keys.length:Int) == 0) else false)) (.ptr 0 0 4) rfl (fun hv => by (try simp only [y7 hv]);exact ⟨rfl,tr,rfl⟩) ?_;refine s_g (v:=(bif D then ((A.Keys.length:Int) == 0) else false)) (.lst 5 (A.Items.map l9)) rfl (fun hv => by (try simp only [y7 hv]);exact ⟨rfl,nle,rfl⟩) ?_;refine s_g (v:=(bif D then ((A.Keys.length:Int) == 0) else false)) (.I (A.Items.length:Int)) rfl (fun hv => by (try simp only [y7 hv]);exact ⟨rfl,tr,lenV _ _⟩) ?_;refine s_g (v:=(bif D then ((A.Keys.length:Int) == 0) else false)) (.bool ((A.Items.length:Int) == 0)) rfl (fun hv => by (try simp only [y7 hv]);exact ⟨rfl,rfl,rfl⟩) ?_
      refine a3c (x:=((A.Items.length:Int) == 0)) (y:=false) rfl (fun hv => by (try simp only [y7 hv]);rfl) (fun hv => by (try simp only [y7 hv]);rfl) ?_;refine l7 (.bool (bif (bif D then ((A.Keys.length:Int) == 0) else false) then ((A.Items.length:Int) == 0) else false)) rfl<|dk<|a0e<|?_;obtain rfl:=os hf;exact a0g ⟨tr,tr⟩ rfl .r
     ·refine a1g (s:=76) (b:=false) rfl (bf c16)<|a0d rfl rfl<|a0d rfl rfl<|a0d rfl rfl<|x8 (.bool false) rfl tr rfl<|l7 (.bool false) rfl<|a0d rfl rfl<|a0d rfl rfl<|a0d rfl rfl<|a0d rfl rfl<|x8 (.bool false) rfl tr rfl<|l7 (.bool false) rfl<|a0d rfl rfl<|a0d rfl rfl<|a0d rfl rfl<|a0d rfl rfl<|x8 (.bool false) rfl tr rfl<|l7 (.bool false) rfl<|dk<|a0e<|?_;obtain rfl:=os hf;exact a0g ⟨tr,tr⟩ rfl .r
    ·refine y9 rfl (bf c15)<|sr<|x8 (.bool (A.Kind == 4)) rfl rfl rfl<|l7 (.bool (A.Kind == 4)) rfl<|dk<|?_
     rcases oi hf with ⟨c21,hf⟩ | ⟨c21,hf⟩
     ·refine y8 rfl c21<|sr<|x8 (.ptr 0 0 1) rfl tr rfl<|x8 (.I A.N) rfl nle rfl<|x8 (.bool (A.N == 0)) rfl rfl rfl<|l7 (.bool (A.N == 0)) rfl<|?_;refine s_g (v:=(A.N == 0)) (.ptr 0 0 2) rfl (fun hv => by (try simp only [y7 hv]);exact ⟨rfl,tr,rfl⟩) ?_;refine s_g (v:=(A.N == 0)) (.str A.T) rfl (fun hv => by (try simp only [y7 hv]);exact ⟨rfl,nle,rfl⟩) ?_;refine s_g (v:=(A.N == 0)) (.bool (A.T == [])) rfl (fun hv => by (try simp only [y7 hv]);exact ⟨rfl,tr,rfl⟩) ?_;refine a3c (x:=(A.T == [])) (y:=false) rfl (fun hv => by (try simp only [y7 hv]);rfl) (fun hv => by (try simp only [y7 hv]);rfl) ?_;refine l7 (.bool (bif (A.N == 0) then (A.T == []) else false)) rfl ?_
      refine s_g (v:=(bif (A.N == 0) then (A.T == []) else false)) (.ptr 0 0 3) rfl (fun hv => by (try simp only [y7 hv]);exact ⟨rfl,tr,rfl⟩) ?_;refine s_g (v:=(bif (A.N == 0) then (A.T == []) else false)) (.lst 1 (A.Keys.map AV.str)) rfl (fun hv => by (try simp only [y7 hv]);exact ⟨rfl,nle,rfl⟩) ?_;refine s_g (v:=(bif (A.N == 0) then (A.T == []) else false)) (.I (A.Keys.length:Int)) rfl (fun hv => by (try simp only [y7 hv]);exact ⟨rfl,tr,lenV _ _⟩) ?_;refine s_g (v:=(bif (A.N == 0) then (A.T == []) else false)) (.bool ((A.Keys.length:Int) == 0)) rfl (fun hv => by (try simp only [y7 hv]);exact ⟨rfl,rfl,rfl⟩) ?_;refine a3c (x:=((A.Keys.length:Int) == 0)) (y:=false) rfl (fun hv => by (try simp only [y7 hv]);rfl) (fun hv => by (try simp only [y7 hv]);rfl) ?_
      refine l7 (.bool (bif (bif (A.N == 0) then (A.T == []) else false) then ((A.Keys.length:Int) == 0) else false)) rfl<|dk<|a0e<|?_;obtain rfl:=os hf;exact a0g ⟨tr,tr⟩ rfl .r
     ·refine y9 rfl (bf c21)<|sr<|x8 (.bool (A.Kind == 5)) rfl rfl rfl<|l7 (.bool (A.Kind == 5)) rfl<|dk<|?_
      rcases oi hf with ⟨c23,hf⟩ | ⟨c23,hf⟩
      ·refine y8 rfl c23<|sr<|x8 (.ptr 0 0 1) rfl tr rfl<|x8 (.I A.N) rfl nle rfl<|x8 (.bool (A.N == 0)) rfl rfl rfl<|l7 (.bool (A.N == 0)) rfl<|?_;refine s_g (v:=(A.N == 0)) (.ptr 0 0 2) rfl (fun hv => by (try simp only [y7 hv]);exact ⟨rfl,tr,rfl⟩) ?_;refine s_g (v:=(A.N == 0)) (.str A.T) rfl (fun hv => by (try simp only [y7 hv]);exact ⟨rfl,nle,rfl⟩) ?_;refine s_g (v:=(A.N == 0)) (.bool (A.T == [])) rfl (fun hv => by (try simp only [y7 hv]);exact ⟨rfl,tr,rfl⟩) ?_;refine a3c (x:=(A.T == [])) (y:=false) rfl (fun hv => by (try simp only [y7 hv]);rfl) (fun hv => by (try simp only [y7 hv]);rfl) ?_;refine l7 (.bool (bif (A.N == 0) then (A.T == []) else false)) rfl ?_
       refine s_g (v:=(bif (A.N == 0) then (A.T == []) else false)) (.ptr 0 0 3) rfl (fun hv => by (try simp only [y7 hv]);exact ⟨rfl,tr,rfl⟩) ?_;refine s_g (v:=(bif (A.N == 0) then (A.T == []) else false)) (.lst 1 (A.Keys.map AV.str)) rfl (fun hv => by (try simp only [y7 hv]);exact ⟨rfl,nle,rfl⟩) ?_;refine s_g (v:=(bif (A.N == 0) then (A.T == []) else false)) (.I (A.Keys.length:Int)) rfl (fun hv => by (try simp only [y7 hv]);exact ⟨rfl,tr,lenV _ _⟩) ?_;refine s_g (v:=(bif (A.N == 0) then (A.T == []) else false)) (.ptr 0 0 4) rfl (fun hv => by (try simp only [y7 hv]);exact ⟨rfl,tr,rfl⟩) ?_;refine s_g (v:=(bif (A.N == 0) then (A.T == []) else false)) (.lst 5 (A.Items.map l9)) rfl (fun hv => by (try simp only [y7 hv]);exact ⟨rfl,nle,rfl⟩) ?_
       refine s_g (v:=(bif (A.N == 0) then (A.T == []) else false)) (.I (A.Items.length:Int)) rfl (fun hv => by (try simp only [y7 hv]);exact ⟨rfl,tr,lenV _ _⟩) ?_;refine s_g (v:=(bif (A.N == 0) then (A.T == []) else false)) (.bool ((A.Keys.length:Int) == (A.Items.length:Int))) rfl (fun hv => by (try simp only [y7 hv]);exact ⟨rfl,rfl,rfl⟩) ?_;refine a3c (x:=((A.Keys.length:Int) == (A.Items.length:Int))) (y:=false) rfl (fun hv => by (try simp only [y7 hv]);rfl) (fun hv => by (try simp only [y7 hv]);rfl) ?_;refine l7 (.bool (bif (bif (A.N == 0) then (A.T == []) else false) then ((A.Keys.length:Int) == (A.Items.length:Int)) else false)) rfl ?_
       rcases oi hf with ⟨c26,hf⟩ | ⟨c26,hf⟩
       ·refine a1g (s:=128) (b:=true) rfl c26<|s_on rfl<|x8 (.ptr 0 0 3) rfl tr rfl<|s_on rfl<|x8 (.lst 1 (A.Keys.map AV.str)) rfl nle rfl<|s_on rfl<|?_
        obtain ⟨F,er28,hf⟩:=ob hf
        refine x9 (a0n (c9h _ _ er28) rfl .r rfl)<|x8 (.bool F) rfl tr rfl<|l7 (.bool F) rfl<|dk<|a0e<|?_;obtain rfl:=os hf;exact a0g ⟨tr,tr⟩ rfl .r
       ·refine a1g (s:=128) (b:=false) rfl (bf c26)<|a0d rfl rfl<|a0d rfl rfl<|a0d rfl rfl<|x8 (.bool false) rfl tr rfl<|l7 (.bool false) rfl<|dk<|a0e<|?_;obtain rfl:=os hf;exact a0g ⟨tr,tr⟩ rfl .r
      ·refine y9 rfl (bf c23)<|a0j<|a2v<|a0i<|sr<|l7 (.bool false) rfl<|dk<|a0e<|?_;obtain rfl:=os hf;exact a0g ⟨tr,tr⟩ rfl .r

/- (impl.Json).rightIn$1 -/
def d9m:a0m :=
 (.seq (.reg (tq 3 (.box 5 (.t 0)) (tm 4 (.c (.bool false)) .done)))
 (.seq (.reg (tq 5 (.load 5 true (.t 3)) (tq 6 (.load 1 false (.t 1)) (tq 7 (.bin .add (.t 6) (.c (.int .i64 1))) (tq 8 (.load 1 false (.t 2)) (tq 9 (.call 224 [(.t 5),(.t 7),(.t 8)]) (tq 10 (.not (.t 9)) (tm 4 (.t 10) .done))))))))
 .ret))
theorem e3l:a1b Tryz.prog Tryz.f302 = some (d9m.erase,[.mov (.t 4)],11):=by kernel_rfl
def a7f (rec:(o9 → Int → Int → Option (Bool × Int))) (A:o9) (B:Int) (E:Int):Option (Bool × Int × Int) :=
    (rec A (w64 (B + 1)) E).bind fun D =>
    some ((!D.1),B,D.2)
theorem b6v (rec:(o9 → Int → Int → Option (Bool × Int))) (hrec:∀ a0 a1 a2 r,rec a0 a1 a2 = some r → a0v Tryz.prog false 224 [(l9 a0),(.I a1),(.ptr 0 0 0)] [.box 1 (.I a2)] (.bool r.1) [.box 1 (.I r.2)]) (A:o9) (B:Int) (E:Int) (r:(Bool × Int × Int)) (hf:a7f rec A B E = some r):a0v Tryz.prog false 302 [(l9 A),(.ptr 0 0 0),(.ptr 1 0 0)] [.box 1 (.I B),.box 1 (.ptr 2 0 0),.box 1 (.I E)] (.bool r.1) [.box 1 (.I r.2.1),.box 1 (.ptr 2 0 0),.box 1 (.I r.2.2)]:=by
 refine a0v.of_awp mixed Tryz.func302 e3l nle ?_;rw [a0l];rw [o8 A];unfold a7f at hf;unfold d9m;refine (show awp Tryz.prog false 3 _ (ofL [(0,(.agg [(.I A.Kind),(.I A.N),(.str A.T),(.lst 1 (A.Keys.map AV.str)),(.lst 5 (A.Items.map l9))])),(1,(.ptr 0 0 0)),(2,(.ptr 1 0 0))]) [.box 1 (.I B),.box 1 (.ptr 2 0 0),.box 1 (.I E)] _ from ?_);refine sr<|x9 (a1j (j:=3) (c:=(.agg [(.I A.Kind),(.I A.N),(.str A.T),(.lst 1 (A.Keys.map AV.str)),(.lst 5 (A.Items.map l9))])) rfl tr rfl rfl)<|l7 (.bool false) rfl<|dk<|?_
 refine sr<|?_
 obtain ⟨D,er5,hf⟩:=ob hf
 refine x8 (.agg [(.I A.Kind),(.I A.N),(.str A.T),(.lst 1 (A.Keys.map AV.str)),(.lst 5 (A.Items.map l9))]) rfl nle rfl<|x8 (.I B) rfl ⟨rfl,rfl⟩ rfl<|x8 (.I (w64 (B + 1))) rfl rfl rfl<|x8 (.ptr 2 0 0) rfl ⟨rfl,rfl⟩ rfl<|?_;refine x9 (a7q (v:=(.bool D.1)) (h2:=[.box 1 (.I B),.box 1 (.ptr 2 0 0),.box 1 (.I D.2),.box 5 (.agg [(.I A.Kind),(.I A.N),(.str A.T),(.lst 1 (A.Keys.map AV.str)),(.lst 5 (A.Items.map l9))])]) [] [2] (fun _ => rfl) (hrec _ _ _ _ er5) rfl (.cons (.of_eq (o8 A).symm) (.cons .r (.cons .r .nil))) .r rfl rfl) ?_
 refine x8 (.bool (!D.1)) rfl tr rfl<|l7 (.bool (!D.1)) rfl<|dk<|a0e<|?_;obtain rfl:=os hf;exact a7b [] [0,1,2] rfl ⟨tr,tr⟩ rfl .r .r

/- slices.IndexFunc[[]impl.Json,impl.Json] -/
def d9n:a0m :=
 (.seq (.reg (tm 4 (.c (.int .i64 0)) .done))
 (.seq (.seq (.reg (tm 6 (.t 0) (tq 7 (.len (.t 6)) (tm 8 (.c (.int .i64 0)) .done))))
 (.block 0 (.loop (.seq (.reg (tq 9 (.bin .lss (.t 8) (.t 7)) .done))
 (.seq (.cond (.t 9) .skip
 (.exit 0))
 (.seq (.block 1 (.seq (.reg (tm 10 (.t 8) (tm 5 (.t 10) .done)))
 (.seq (.reg (tm 11 (.t 1) (tm 12 (.t 0) (tm 13 (.t 5) (tq 14 (.iaddr 5 (.t 12) (.t 13)) (tq 15 (.load 5 true (.t 14)) (tq 16 (.calv (.t 11) [(.t 15)]) .done)))))))
 (.cond (.t 16) (.seq (.reg (tm 17 (.t 5) (tm 4 (.t 17) .done)))
 .ret)
 .skip))))
 (.reg (tq 18 (.bin .add (.t 8) (.c (.int .i64 1))) (tm 8 (.t 18) .done)))))))))
 (.cut (.seq (.reg (tq 4 (.mov (.c (.int .i64 (-1)))) .done))
 .ret))))
theorem e3m:a1b Tryz.prog Tryz.f350 = some (d9n.erase,[.mov (.t 4)],19):=by kernel_rfl
def a0t (rec:(o9 → Int → Int → Option (Bool × Int))):List o9 → Nat → Int → Int → Option (Fl (Int × Int × Int) (Int × Int))
  | [],A,F,G =>
    some (.go (F,G))
  | E :: xs,A,F,G =>
    (a7f rec E F G).bind fun D =>
    if D.1 then
    some (.ret ((A:Int),D.2.1,D.2.2))
    else
    a0t rec xs (A + 1) D.2.1 D.2.2

def a3a (rec:(o9 → Int → Int → Option (Bool × Int))) (B:(List o9)) (H:Int) (J:Int):Option (Int × Int × Int) :=
    (a0t rec B 0 H J).bind fun q => (match q with
    | .ret r => some r
    | .go (K,L) =>
    some ((-1),K,L))
theorem a8x (rec:(o9 → Int → Int → Option (Bool × Int))) (hrec:∀ a0 a1 a2 r,rec a0 a1 a2 = some r → a0v Tryz.prog false 224 [(l9 a0),(.I a1),(.ptr 0 0 0)] [.box 1 (.I a2)] (.bool r.1) [.box 1 (.I r.2)]) (B:(List o9)) (H:Int) (J:Int) (r:(Int × Int × Int)) (hf:a3a rec B H J = some r):a0v Tryz.prog false 350 [(.lst 5 (B.map l9)),(.fn 302 [(.ptr 0 0 0),(.ptr 1 0 0)])] [.box 1 (.I H),.box 1 (.ptr 2 0 0),.box 1 (.I J)] (.I r.1) [.box 1 (.I r.2.1),.box 1 (.ptr 2 0 0),.box 1 (.I r.2.2)]:=by
 refine a0v.of_awp mixed Tryz.func350 e3m nle ?_;rw [a0l];unfold a3a at hf;unfold d9n;refine (show awp Tryz.prog false 3 _ (ofL [(0,(.lst 5 (B.map l9))),(1,(.fn 302 [(.ptr 0 0 0),(.ptr 1 0 0)]))]) [.box 1 (.I H),.box 1 (.ptr 2 0 0),.box 1 (.I J)] _ from ?_);refine sr<|l7 (.I 0) rfl<|dk<|o7<|sr<|l7 (.lst 5 (B.map l9)) rfl<|a0y (a1o (enc:=l9) rfl) fun hl4 => l7 (.I 0) rfl<|dk<|?_
 obtain ⟨p31,hb1,hf⟩:=ob hf
 refine a3j (X:={q:(Int × Int) // p31 = .go q}) (fun q => ([],[.box 1 (.I q.1.1),.box 1 (.ptr 2 0 0),.box 1 (.I q.1.2)])) ?_ ?_
 ·refine a1f (X:={q:(Nat × Int × Int) // a0t rec (B.drop q.1) q.1 q.2.1 q.2.2 = some p31}) (fun q => ([(0,(.lst 5 (B.map l9))),(1,(.fn 302 [(.ptr 0 0 0),(.ptr 1 0 0)])),(7,(.I (B.length:Int))),(8,(.I (q.1.1:Int)))],[.box 1 (.I q.1.2.1),.box 1 (.ptr 2 0 0),.box 1 (.I q.1.2.2)])) (fun q => B.length - q.1.1) ⟨(0,H,J),hb1⟩ ⟨[],[0,1,2],_,_,rfl,rfl,⟨.r,⟨.r,⟨.r,⟨.r,tr⟩⟩⟩⟩,.r⟩ ?_
  rintro ⟨⟨A,F,G⟩,hc1⟩
  have hc1:a0t rec (B.drop A) A F G = some p31:=hc1
  refine (show awp Tryz.prog false 3 _ (ofL [(0,(.lst 5 (B.map l9))),(1,(.fn 302 [(.ptr 0 0 0),(.ptr 1 0 0)])),(7,(.I (B.length:Int))),(8,(.I (A:Int)))]) [.box 1 (.I F),.box 1 (.ptr 2 0 0),.box 1 (.I G)] _ from ?_)
  rcases a5n B A with ⟨hie34,hd37⟩ | ⟨hlt32,E,hx33,hd37⟩
  ·rw [hd37,a0t.eq_1] at hc1
   have hq36:=dlf hie34
   refine sr<|x8 (.bool (decide ((A:Int) < (B.length:Int)))) rfl rfl rfl<|dk<|o7<|y9 rfl hq36<|a2l<|a2k<|a1t<|a2j<|?_;obtain rfl:=os hc1;exact a6i ⟨_,rfl⟩ ⟨[],[0,1,2],_,_,rfl,rfl,tr,.r⟩
  ·rw [hd37,a0t.eq_2] at hc1
   have hq36:=dlt hlt32
   refine sr<|x8 (.bool (decide ((A:Int) < (B.length:Int)))) rfl rfl rfl<|dk<|o7<|y8 rfl hq36<|a0j<|a0i<|o7<|a2x<|sr<|l7 (.I (A:Int)) rfl<|l7 (.I (A:Int)) rfl<|dk<|sr<|?_
   obtain ⟨D,er40,hc1⟩:=ob hc1
   refine l7 (.fn 302 [(.ptr 0 0 0),(.ptr 1 0 0)]) rfl<|l7 (.lst 5 (B.map l9)) rfl<|l7 (.I (A:Int)) rfl<|x9 (a1n (enc:=l9) rfl rfl hx33)<|x9 (a8k (v:=(.agg [(.I E.Kind),(.I E.N),(.str E.T),(.lst 1 (E.Keys.map AV.str)),(.lst 5 (E.Items.map l9))])) rfl (o8 _) nle rfl)<|?_;refine x9 (e5n (v:=(.bool D.1)) (h2:=[.box 1 (.I D.2.1),.box 1 (.ptr 2 0 0),.box 1 (.I D.2.2)]) [] [0,1,2] (fun _ => rfl) rfl (by kernel_rfl) (b6v rec hrec _ _ _ _ er40) rfl rfl (.cons (.of_eq (o8 E).symm) (.cons .r (.cons .r .nil))) .r rfl rfl) ?_
   refine dk<|?_
   rcases oi hc1 with ⟨c41,hc1⟩ | ⟨c41,hc1⟩
   ·refine y8 rfl c41<|sr<|l7 (.I (A:Int)) rfl<|l7 (.I (A:Int)) rfl<|dk<|a0e<|?_;obtain rfl:=os hc1;obtain rfl:=os hf;exact a7b [] [0,1,2] rfl ⟨tr,tr⟩ rfl .r .r
   ·refine y9 rfl (bf c41)<|a0j<|a2v<|a0i<|a0s<|x8 (.I (w64 ((A:Int) + 1))) rfl rfl rfl<|l7 (.I (w64 ((A:Int) + 1))) rfl<|a0h<|?_;exact a1m ⟨((A + 1),D.2.1,D.2.2),hc1⟩ (mul hlt32) ⟨[],[0,1,2],_,_,rfl,rfl,⟨.r,⟨.r,⟨.r,⟨.of_eq (congrArg (AV.int _) (a1p hlt32 hl4)),tr⟩⟩⟩⟩,.r⟩
 ·rintro ⟨⟨K,L⟩,rfl⟩
  refine sr<|l7 (.I (-1)) rfl<|dk<|a0e<|?_;obtain rfl:=os hf;exact a7b [] [0,1,2] rfl ⟨tr,tr⟩ rfl .r .r

/- slices.ContainsFunc[[]impl.Json,impl.Json] -/
def d9o:a0m :=
 (.seq (.reg (tm 4 (.c (.bool false)) .done))
 (.seq (.reg (tm 5 (.t 0) (tm 6 (.t 1) (tq 7 (.call 350 [(.t 5),(.t 6)]) (tq 8 (.bin .geq (.t 7) (.c (.int .i64 0))) (tm 4 (.t 8) .done))))))
 .ret))
theorem e3n:a1b Tryz.prog Tryz.f301 = some (d9o.erase,[.mov (.t 4)],9):=by kernel_rfl
def a2s (rec:(o9 → Int → Int → Option (Bool × Int))) (B:(List o9)) (D:Int) (E:Int):Option (Bool × Int × Int) :=
    (a3a rec B D E).bind fun A =>
    some ((decide (A.1 ≥ 0)),A.2.1,A.2.2)
theorem a8n (rec:(o9 → Int → Int → Option (Bool × Int))) (hrec:∀ a0 a1 a2 r,rec a0 a1 a2 = some r → a0v Tryz.prog false 224 [(l9 a0),(.I a1),(.ptr 0 0 0)] [.box 1 (.I a2)] (.bool r.1) [.box 1 (.I r.2)]) (B:(List o9)) (D:Int) (E:Int) (r:(Bool × Int × Int)) (hf:a2s rec B D E = some r):a0v Tryz.prog false 301 [(.lst 5 (B.map l9)),(.fn 302 [(.ptr 0 0 0),(.ptr 1 0 0)])] [.box 1 (.I D),.box 1 (.ptr 2 0 0),.box 1 (.I E)] (.bool r.1) [.box 1 (.I r.2.1),.box 1 (.ptr 2 0 0),.box 1 (.I r.2.2)]:=by
 refine a0v.of_awp mixed Tryz.func301 e3n nle ?_;rw [a0l];unfold a2s at hf;unfold d9o;refine (show awp Tryz.prog false 3 _ (ofL [(0,(.lst 5 (B.map l9))),(1,(.fn 302 [(.ptr 0 0 0),(.ptr 1 0 0)]))]) [.box 1 (.I D),.box 1 (.ptr 2 0 0),.box 1 (.I E)] _ from ?_);refine sr<|l7 (.bool false) rfl<|dk<|sr<|?_
 obtain ⟨A,er5,hf⟩:=ob hf
 refine l7 (.lst 5 (B.map l9)) rfl<|l7 (.fn 302 [(.ptr 0 0 0),(.ptr 1 0 0)]) rfl<|?_;refine x9 (a7q (v:=(.I A.1)) (h2:=[.box 1 (.I A.2.1),.box 1 (.ptr 2 0 0),.box 1 (.I A.2.2)]) [] [0,1,2] (fun _ => rfl) (a8x rec hrec _ _ _ _ er5) rfl .r .r rfl rfl) ?_;refine x8 (.bool (decide (A.1 ≥ 0))) rfl rfl rfl<|l7 (.bool (decide (A.1 ≥ 0))) rfl<|dk<|a0e<|?_;obtain rfl:=os hf;exact a7b [] [0,1,2] rfl ⟨tr,tr⟩ rfl .r .r

/- (impl.Json).rightIn -/
def d9p:a0m :=
 (.seq (.reg (tq 3 (.box 5 (.t 0)) (tq 4 (.box 1 (.t 1)) (tq 5 (.box 1 (.t 2)) (tm 6 (.c (.bool false)) .done)))))
 (.seq (.seq (.reg (tq 7 (.load 1 false (.t 5)) (tq 8 (.nilck (.t 7)) (tq 9 (.load 1 false (.t 8)) (tq 10 (.bin .sub (.t 9) (.c (.int .i64 1))) (tq 11 (.nilck (.t 7)) (.q ⟨none,none,.store 1 (.t 11) (.t 10)⟩
 .done)))))))
 (.seq (.reg (tq 12 (.load 1 false (.t 5)) (tq 13 (.nilck (.t 12)) (tq 14 (.load 1 false (.t 13)) (tq 15 (.bin .lss (.t 14) (.c (.int .i64 0))) (tm 16 (.t 15) (tg 17 16 false (.load 1 false (.t 4)) (tg 18 16 false (.bin .geq (.t 17) (.c (.int .i64 12))) (tq 19 (.pick (.t 16) (.c (.bool true)) (.t 18)) (tm 20 (.t 19) (tg 21 20 false (.load 5 true (.t 3)) (tg 22 20 false (.call 300 [(.t 21)]) (tg 23 20 false (.not (.t 22)) (tq 24 (.pick (.t 20) (.c (.bool true)) (.t 23)) .done))))))))))))))
 (.cut (.cond (.t 24) (.seq (.reg (tm 6 (.c (.bool false)) .done))
 .ret)
 .skip))))
 (.seq (.reg (tq 25 (.faddr 4 (.t 3)) (tq 26 (.load 1 false (.t 25)) (tq 27 (.mkfn 302 [(.t 4),(.t 5)]) (tq 28 (.call 301 [(.t 26),(.t 27)]) (tq 29 (.not (.t 28)) (tm 6 (.t 29) .done)))))))
 .ret)))
theorem e3o:a1b Tryz.prog Tryz.f224 = some (d9p.erase,[.mov (.t 6)],30):=by kernel_rfl
def a8h (rec:(o9 → Int → Int → Option (Bool × Int))) (B:o9) (D:Int) (A:Int):Option (Bool × Int) :=
    ((if (bif (decide (w64 (A - 1) < 0)) then true else (decide (D ≥ 12))) then
    some true
    else
    (a8m B).bind fun F =>
    some (!F):Option Bool)).bind fun G =>
    if G then
    some (false,w64 (A - 1))
    else
    (a2s rec B.Items D (w64 (A - 1))).bind fun E =>
    some ((!E.1),E.2.2)
theorem b8z (rec:(o9 → Int → Int → Option (Bool × Int))) (hrec:∀ a0 a1 a2 r,rec a0 a1 a2 = some r → a0v Tryz.prog false 224 [(l9 a0),(.I a1),(.ptr 0 0 0)] [.box 1 (.I a2)] (.bool r.1) [.box 1 (.I r.2)]) (B:o9) (D:Int) (A:Int) (r:(Bool × Int)) (hf:a8h rec B D A = some r):a0v Tryz.prog false 224 [(l9 B),(.I D),(.ptr 0 0 0)] [.box 1 (.I A)] (.bool r.1) [.box 1 (.I r.2)]:=by
 refine a0v.of_awp mixed Tryz.func224 e3o nle ?_;rw [a0l];rw [o8 B];unfold a8h at hf;unfold d9p;refine (show awp Tryz.prog false 1 _ (ofL [(0,(.agg [(.I B.Kind),(.I B.N),(.str B.T),(.lst 1 (B.Keys.map AV.str)),(.lst 5 (B.Items.map l9))])),(1,(.I D)),(2,(.ptr 0 0 0))]) [.box 1 (.I A)] _ from ?_);refine sr<|x9 (a1j (j:=1) (c:=(.agg [(.I B.Kind),(.I B.N),(.str B.T),(.lst 1 (B.Keys.map AV.str)),(.lst 5 (B.Items.map l9))])) rfl tr rfl rfl)<|x9 (a1j (j:=2) (c:=(.I D)) rfl tr rfl rfl)<|x9 (a1j (j:=3) (c:=(.ptr 0 0 0)) rfl tr rfl rfl)<|?_
 refine l7 (.bool false) rfl<|dk<|o7<|sr<|x8 (.ptr 0 0 0) rfl ⟨rfl,rfl⟩ rfl<|x8 (.ptr 0 0 0) rfl tr rfl<|x8 (.I A) rfl ⟨rfl,rfl⟩ rfl<|x8 (.I (w64 (A - 1))) rfl rfl rfl<|x8 (.ptr 0 0 0) rfl tr rfl<|a1v (a0f (v:=(.I (w64 (A - 1)))) (y':=(.I (w64 (A - 1)))) rfl rfl rfl tr ⟨rfl,rfl,rfl⟩ ⟨⟨rfl,tr⟩,tr⟩ rfl)<|dk<|o7<|?_
 obtain ⟨G,hb1,hf⟩:=ob hf
 refine a1s ([(3,(.ptr 1 0 0)),(4,(.ptr 2 0 0)),(5,(.ptr 3 0 0)),(24,(.bool G))],[.box 1 (.I (w64 (A - 1))),.box 5 (.agg [(.I B.Kind),(.I B.N),(.str B.T),(.lst 1 (B.Keys.map AV.str)),(.lst 5 (B.Items.map l9))]),.box 1 (.I D),.box 1 (.ptr 0 0 0)]) ?_ ?_
 ·refine a0s<|x8 (.ptr 0 0 0) rfl ⟨rfl,rfl⟩ rfl<|x8 (.ptr 0 0 0) rfl tr rfl<|x8 (.I (w64 (A - 1))) rfl ⟨rfl,rfl⟩ rfl<|x8 (.bool (decide (w64 (A - 1) < 0))) rfl rfl rfl<|l7 (.bool (decide (w64 (A - 1) < 0))) rfl<|?_;refine s_g (v:=(decide (w64 (A - 1) < 0))) (.I D) rfl (fun hv => by (try simp only [y7 hv]);exact ⟨rfl,⟨rfl,rfl⟩,rfl⟩) ?_;refine s_g (v:=(decide (w64 (A - 1) < 0))) (.bool (decide (D ≥ 12))) rfl (fun hv => by (try simp only [y7 hv]);exact ⟨rfl,rfl,rfl⟩) ?_;refine a3c (x:=true) (y:=(decide (D ≥ 12))) rfl (fun hv => by (try simp only [y7 hv]);rfl) (fun hv => by (try simp only [y7 hv]);rfl) ?_
  refine l7 (.bool (bif (decide (w64 (A - 1) < 0)) then true else (decide (D ≥ 12)))) rfl ?_
  rcases oi hb1 with ⟨c9,hb1⟩ | ⟨c9,hb1⟩
  ·refine a1g (s:=20) (b:=true) rfl c9<|a0d rfl rfl<|a0d rfl rfl<|a0d rfl rfl<|x8 (.bool true) rfl tr rfl<|a0h<|?_;obtain rfl:=os hb1;exact ⟨[],[0,1,2,3],_,_,rfl,rfl,⟨.r,⟨.r,⟨.r,⟨.r,tr⟩⟩⟩⟩,.r⟩
  ·refine a1g (s:=20) (b:=false) rfl (bf c9)<|s_on rfl<|x8 (.agg [(.I B.Kind),(.I B.N),(.str B.T),(.lst 1 (B.Keys.map AV.str)),(.lst 5 (B.Items.map l9))]) rfl nle rfl<|s_on rfl<|?_
   obtain ⟨F,er11,hb1⟩:=ob hb1
   refine x9 (a0n (c1x _ _ er11) rfl (.cons (.of_eq (o8 B).symm) .nil) rfl)<|s_on rfl<|x8 (.bool (!F)) rfl tr rfl<|x8 (.bool (!F)) rfl tr rfl<|a0h<|?_;obtain rfl:=os hb1;exact ⟨[],[0,1,2,3],_,_,rfl,rfl,⟨.r,⟨.r,⟨.r,⟨.r,tr⟩⟩⟩⟩,.r⟩
 ·rcases oi hf with ⟨c12,hf⟩ | ⟨c12,hf⟩
  ·refine y8 rfl c12<|sr<|l7 (.bool false) rfl<|dk<|a0e<|?_;obtain rfl:=os hf;exact a7b [] [0] rfl ⟨tr,tr⟩ rfl .r .r
  ·refine y9 rfl (bf c12)<|a0j<|a0i<|sr<|?_
   obtain ⟨E,er14,hf⟩:=ob hf
   refine x8 (.ptr 1 0 4) rfl tr rfl<|x8 (.lst 5 (B.Items.map l9)) rfl nle rfl<|x8 (.fn 302 [(.ptr 2 0 0),(.ptr 3 0 0)]) rfl tr rfl<|?_;refine x9 (a7q (v:=(.bool E.1)) (h2:=[.box 1 (.I E.2.2),.box 5 (.agg [(.I B.Kind),(.I B.N),(.str B.T),(.lst 1 (B.Keys.map AV.str)),(.lst 5 (B.Items.map l9))]),.box 1 (.I E.2.1),.box 1 (.ptr 0 0 0)]) [] [2,3,0] (fun _ => rfl) (a8n rec hrec _ _ _ _ er14) rfl .r .r rfl rfl) ?_;refine x8 (.bool (!E.1)) rfl tr rfl<|l7 (.bool (!E.1)) rfl<|dk<|a0e<|?_;obtain rfl:=os hf;exact a7b [] [0] rfl ⟨tr,tr⟩ rfl .r .r
def a4v:Nat → o9 → Int → Int → Option (Bool × Int)
 | 0,_,_,_ => none
 | k + 1,B,D,A => a8h (a4v k) B D A
theorem b5g:∀ (k:Nat) (B:o9) (D:Int) (A:Int) (r:(Bool × Int)),a4v k B D A = some r → a0v Tryz.prog false 224 [(l9 B),(.I D),(.ptr 0 0 0)] [.box 1 (.I A)] (.bool r.1) [.box 1 (.I r.2)]
 | 0,B,D,A,r,h => by rw [a4v.eq_1] at h;cases h
 | k + 1,B,D,A,r,h => by
  rw [a4v.eq_2] at h;exact b8z _ (b5g k) B D A r h

/- impl.JsonOK -/
def c124:a0m :=
 (.seq (.reg (tq 1 (.box 5 (.t 0)) (tm 2 (.c (.bool false)) .done)))
 (.seq (.reg (tq 3 (.box 1 (.c (.int .i64 0))) (.q ⟨none,none,.store 1 (.t 3) (.c (.int .i64 400))⟩
 .done)))
 (.seq (.reg (tq 4 (.load 5 true (.t 1)) (tq 5 (.call 224 [(.t 4),(.c (.int .i64 0)),(.t 3)]) (tm 2 (.t 5) .done))))
 .ret)))
theorem f2k:a1b Tryz.prog Tryz.f124 = some (c124.erase,[.mov (.t 2)],6):=by kernel_rfl
def b4q (A:o9):Option Bool :=
    (a4v FUEL A 0 400).bind fun B =>
    some B.1
theorem d0w (A:o9) (r:Bool) (hf:b4q A = some r):a0a Tryz.prog 124 .flat [(l9 A)] (.bool r):=by
 refine a0a.of_awp mixed Tryz.func124 f2k nle ?_;rw [a0l];rw [o8 A];unfold b4q at hf;unfold c124;refine (show awp Tryz.prog false 0 _ (ofL [(0,(.agg [(.I A.Kind),(.I A.N),(.str A.T),(.lst 1 (A.Keys.map AV.str)),(.lst 5 (A.Items.map l9))]))]) [] _ from ?_);refine sr<|x9 (a1j (j:=0) (c:=(.agg [(.I A.Kind),(.I A.N),(.str A.T),(.lst 1 (A.Keys.map AV.str)),(.lst 5 (A.Items.map l9))])) rfl tr rfl rfl)<|l7 (.bool false) rfl<|dk<|sr<|x9 (a1j (j:=1) (c:=(.I 0)) rfl tr rfl rfl)<|a1v (a0f (v:=(.I 400)) (y':=(.I 400)) rfl rfl rfl tr ⟨rfl,rfl,rfl⟩ ⟨⟨rfl,tr⟩,tr⟩ rfl)<|?_
 refine dk<|sr<|?_
 obtain ⟨B,er3,hf⟩:=ob hf
 refine x8 (.agg [(.I A.Kind),(.I A.N),(.str A.T),(.lst 1 (A.Keys.map AV.str)),(.lst 5 (A.Items.map l9))]) rfl nle rfl ?_;refine x9 (a7q (v:=(.bool B.1)) (h2:=[.box 5 (.agg [(.I A.Kind),(.I A.N),(.str A.T),(.lst 1 (A.Keys.map AV.str)),(.lst 5 (A.Items.map l9))]),.box 1 (.I B.2)]) [] [1] (fun _ => rfl) (b5g FUEL _ _ _ _ er3) rfl (.cons (.of_eq (o8 A).symm) (.cons .r (.cons .r .nil))) .r rfl rfl) ?_;refine l7 (.bool B.1) rfl<|dk<|a0e<|?_;obtain rfl:=os hf;exact a0g ⟨tr,tr⟩ rfl .r

/- impl.ResultJson -/
def c44:a0m :=
 (.seq (.reg (tq 3 (.box 5 (.t 1)) (tq 4 (.box 5 (.c (.agg [(.int .i64 0),(.int .i64 0),(.str []),.nil,.nil]))) (tm 5 (.c (.int .i64 0)) .done))))
 (.seq (.seq (.reg (tm 7 (.t 0) (tq 8 (.call 81 [(.t 7),(.c (.int .i64 1)),(.c (.int .i64 10))]) (tq 9 (.not (.t 8)) (tm 10 (.t 9) (tg 11 10 false (.load 5 true (.t 3)) (tg 12 10 false (.call 122 [(.t 11)]) (tg 13 10 false (.not (.t 12)) (tq 14 (.pick (.t 10) (.c (.bool true)) (.t 13)) .done)))))))))
 (.cut (.cond (.t 14) (.seq (.reg (tq 15 (.build [(.int .i64 0),(.int .i64 0),(.str []),.nil,.nil] []) (.q ⟨none,none,.store 5 (.t 4) (.t 15)⟩
 (tm 5 (.c (.int .i64 1)) .done))))
 .ret)
 .skip)))
 (.seq (.reg (tm 16 (.t 0) (tq 17 (.load 5 true (.t 3)) (tq 18 (.call 123 [(.t 16),(.t 17)]) (tq 6 (.box 5 (.c (.agg [(.int .i64 0),(.int .i64 0),(.str []),.nil,.nil]))) (.q ⟨none,none,.store 5 (.t 6) (.t 18)⟩
 .done))))))
 (.seq (.seq (.reg (tq 19 (.load 5 true (.t 6)) (tq 20 (.call 124 [(.t 19)]) (tq 21 (.not (.t 20)) .done))))
 (.cond (.t 21) (.seq (.reg (tq 22 (.build [(.int .i64 0),(.int .i64 0),(.str []),.nil,.nil] []) (.q ⟨none,none,.store 5 (.t 4) (.t 22)⟩
 (tm 5 (.c (.int .i64 6)) .done))))
 .ret)
 .skip))
 (.seq (.reg (tq 23 (.load 5 true (.t 6)) (.q ⟨none,none,.store 5 (.t 4) (.t 23)⟩
 (tm 5 (.c (.int .i64 0)) .done))))
 .ret)))))
theorem f3t:a1b Tryz.prog Tryz.f44 = some (c44.erase,[.load 5 true (.t 4),.mov (.t 5)],24):=by kernel_rfl
def a7v (D:Int) (B:a1i):Option (o9 × Int) :=
    (((a4u D 1 10).bind fun E =>
    if (!E) then
    some true
    else
    (b1a B).bind fun F =>
    some (!F):Option Bool)).bind fun G =>
    if G then
    some ((⟨0,0,[],[],[]⟩:o9),1)
    else
    (a8w D B).bind fun A =>
    (b4q A).bind fun H =>
    if (!H) then
    some ((⟨0,0,[],[],[]⟩:o9),6)
    else
    some (A,0)
theorem b6q (D:Int) (B:a1i) (r:(o9 × Int)) (hf:a7v D B = some r):a0a Tryz.prog 44 .fresh [(.I D),(a2c B)] (.tup [(l9 r.1),(.I r.2)]):=by
 refine a0a.of_awp mixed Tryz.func44 f3t nle ?_;rw [a0l];unfold a7v at hf;unfold c44;refine (show awp Tryz.prog true 0 _ (ofL [(0,(.I D)),(1,(a2c B))]) [] _ from ?_);refine sr<|x9 (a1j (j:=0) (c:=(.agg [(.I B.Code),(.I B.Count),(.I B.Id),(.lst 1 (B.Columns.map AV.str)),(.lst 2 (B.Rows.map y5))])) rfl tr rfl rfl)<|x9 (a1j (j:=1) (c:=(.agg [(.I 0),(.I 0),(.str []),.nil,.nil])) rfl tr rfl rfl)<|l7 (.I 0) rfl<|dk<|o7<|o7<|?_
 obtain ⟨G,hb1,hf⟩:=ob hf
 refine a1s ([(0,(.I D)),(3,(.ptr 0 0 0)),(4,(.ptr 1 0 0)),(14,(.bool G))],[.box 5 (.agg [(.I B.Code),(.I B.Count),(.I B.Id),(.lst 1 (B.Columns.map AV.str)),(.lst 2 (B.Rows.map y5))]),.box 5 (.agg [(.I 0),(.I 0),(.str []),.nil,.nil])]) ?_ ?_
 ·refine a0s ?_
  obtain ⟨E,er11,hb1⟩:=ob hb1
  rcases oi hb1 with ⟨c12,hb1⟩ | ⟨c12,hb1⟩
  ·refine l7 (.I D) rfl<|x9 (a0n (a4c _ _ _ _ er11) rfl .r rfl)<|x8 (.bool (!E)) rfl tr rfl<|l7 (.bool (!E)) rfl<|a1g (s:=10) (b:=true) rfl c12<|a0d rfl rfl<|a0d rfl rfl<|a0d rfl rfl<|x8 (.bool true) rfl tr rfl<|a0h<|?_;obtain rfl:=os hb1;exact ⟨[],[0,1],_,_,rfl,rfl,⟨.r,⟨.r,⟨.r,⟨.r,tr⟩⟩⟩⟩,.r⟩
  ·obtain ⟨F,er14,hb1⟩:=ob hb1
   refine l7 (.I D) rfl<|x9 (a0n (a4c _ _ _ _ er11) rfl .r rfl)<|x8 (.bool (!E)) rfl tr rfl<|l7 (.bool (!E)) rfl<|a1g (s:=10) (b:=false) rfl (bf c12)<|s_on rfl<|x8 (.agg [(.I B.Code),(.I B.Count),(.I B.Id),(.lst 1 (B.Columns.map AV.str)),(.lst 2 (B.Rows.map y5))]) rfl nle rfl<|s_on rfl<|x9 (a0n (c6s _ _ er14) rfl .r rfl)<|s_on rfl<|x8 (.bool (!F)) rfl tr rfl<|x8 (.bool (!F)) rfl tr rfl<|a0h<|?_;obtain rfl:=os hb1;exact ⟨[],[0,1],_,_,rfl,rfl,⟨.r,⟨.r,⟨.r,⟨.r,tr⟩⟩⟩⟩,.r⟩
 ·rcases oi hf with ⟨c15,hf⟩ | ⟨c15,hf⟩
  ·refine y8 rfl c15<|sr<|x8 (.agg [(.I 0),(.I 0),(.str []),.nil,.nil]) rfl tr rfl<|a1v (a0f (v:=(.agg [(.I 0),(.I 0),(.str []),.nil,.nil])) (y':=(.agg [(.I 0),(.I 0),(.str []),.nil,.nil])) rfl rfl rfl tr ⟨rfl,nle⟩ ⟨⟨rfl,tr⟩,⟨⟨rfl,tr⟩,⟨⟨rfl,tr⟩,⟨⟨rfl,tr⟩,⟨⟨rfl,tr⟩,tr⟩⟩⟩⟩⟩ rfl)<|l7 (.I 1) rfl<|dk<|a0e<|?_;obtain rfl:=os hf;exact a2m ⟨nle,⟨tr,tr⟩⟩ rfl (by decide) (.tup (.cons (leJ (x:=(⟨0,0,[],[],[]⟩:o9)) (.agg (.cons .r (.cons .r (.cons .r (.cons (.nil _) (.cons (.nil _) .nil))))))) (.cons .r .nil)))
  ·refine y9 rfl (bf c15)<|a0j<|a0i<|sr<|?_
   obtain ⟨A,er17,hf⟩:=ob hf
   refine l7 (.I D) rfl<|x8 (.agg [(.I B.Code),(.I B.Count),(.I B.Id),(.lst 1 (B.Columns.map AV.str)),(.lst 2 (B.Rows.map y5))]) rfl nle rfl<|x9 (a2z (v:=(.agg [(.I A.Kind),(.I A.N),(.str A.T),(.own 2 0 A.Keys.length),(.own 3 0 A.Items.length)])) (h':=[.row 1 (A.Keys.map AV.str),.row 5 (A.Items.map l9)]) (c3j _ _ _ er17) rfl .r (by simp only [a2f,a2a,List.length_map,o8,List.nil_append,List.append_nil,List.cons_append];rfl))<|x9 (a1j (j:=4) (c:=(.agg [(.I 0),(.I 0),(.str []),.nil,.nil])) rfl tr rfl rfl)<|a1v (a0f (v:=(.agg [(.I A.Kind),(.I A.N),(.str A.T),(.own 2 0 A.Keys.length),(.own 3 0 A.Items.length)])) (y':=(.agg [(.I A.Kind),(.I A.N),(.str A.T),(.own 2 0 A.Keys.length),(.own 3 0 A.Items.length)])) rfl rfl rfl tr ⟨rfl,nle⟩ ⟨⟨rfl,tr⟩,⟨⟨rfl,tr⟩,⟨⟨rfl,tr⟩,⟨⟨rfl,tr⟩,⟨⟨rfl,tr⟩,tr⟩⟩⟩⟩⟩ rfl)<|?_
   refine dk<|o7<|sr<|?_
   obtain ⟨H,er19,hf⟩:=ob hf
   refine x8 (.agg [(.I A.Kind),(.I A.N),(.str A.T),(.own 2 0 A.Keys.length),(.own 3 0 A.Items.length)]) rfl nle rfl<|x9 (a0n (d0w _ _ er19) rfl (.cons (leJ (x:=A) (.agg (.cons .r (.cons .r (.cons .r (.cons (.of_eq (congrArg (AV.lst _) (tko (enc:=AV.str) A.Keys))) (.cons (.of_eq (congrArg (AV.lst _) (tko (enc:=l9) A.Items))) .nil))))))) .nil) rfl)<|x8 (.bool (!H)) rfl tr rfl<|dk<|?_
   rcases oi hf with ⟨c20,hf⟩ | ⟨c20,hf⟩
   ·refine y8 rfl c20<|sr<|x8 (.agg [(.I 0),(.I 0),(.str []),.nil,.nil]) rfl tr rfl<|a1v (a0f (v:=(.agg [(.I 0),(.I 0),(.str []),.nil,.nil])) (y':=(.agg [(.I 0),(.I 0),(.str []),.nil,.nil])) rfl rfl rfl tr ⟨rfl,nle⟩ ⟨⟨rfl,tr⟩,⟨⟨rfl,tr⟩,⟨⟨rfl,tr⟩,⟨⟨rfl,tr⟩,⟨⟨rfl,tr⟩,tr⟩⟩⟩⟩⟩ rfl)<|l7 (.I 6) rfl<|dk<|a0e<|?_;obtain rfl:=os hf;exact a2m ⟨nle,⟨tr,tr⟩⟩ rfl (by decide) (.tup (.cons (leJ (x:=(⟨0,0,[],[],[]⟩:o9)) (.agg (.cons .r (.cons .r (.cons .r (.cons (.nil _) (.cons (.nil _) .nil))))))) (.cons .r .nil)))
   ·refine y9 rfl (bf c20)<|a0j<|a0i<|sr<|x8 (.agg [(.I A.Kind),(.I A.N),(.str A.T),(.own 2 0 A.Keys.length),(.own 3 0 A.Items.length)]) rfl nle rfl<|a1v (a0f (v:=(.agg [(.I A.Kind),(.I A.N),(.str A.T),(.own 2 0 A.Keys.length),(.own 3 0 A.Items.length)])) (y':=(.agg [(.I A.Kind),(.I A.N),(.str A.T),(.own 2 0 A.Keys.length),(.own 3 0 A.Items.length)])) rfl rfl rfl tr ⟨rfl,nle⟩ ⟨⟨rfl,tr⟩,⟨⟨rfl,tr⟩,⟨⟨rfl,tr⟩,⟨⟨rfl,tr⟩,⟨⟨rfl,tr⟩,tr⟩⟩⟩⟩⟩ rfl)<|l7 (.I 0) rfl<|dk<|a0e<|?_;obtain rfl:=os hf;exact a2m ⟨nle,⟨tr,tr⟩⟩ rfl (by decide) (.tup (.cons (leJ (x:=A) (.agg (.cons .r (.cons .r (.cons .r (.cons (.of_eq (congrArg (AV.lst _) (tk (enc:=AV.str) A.Keys))) (.cons (.of_eq (congrArg (AV.lst _) (tk (enc:=l9) A.Items))) .nil))))))) (.cons .r .nil)))

/- laws.eqStringS -/
def c24:a0m :=
 (.seq (.reg (tm 4 (.c (.bool false)) .done))
 (.seq (.seq (.reg (tm 6 (.t 0) (tq 7 (.len (.t 6)) (tm 8 (.t 1) (tq 9 (.len (.t 8)) (tq 10 (.bin .neq (.t 7) (.t 9)) .done))))))
 (.cond (.t 10) (.seq (.reg (tm 4 (.c (.bool false)) .done))
 .ret)
 .skip))
 (.seq (.seq (.reg (tm 5 (.c (.int .i64 0)) .done))
 (.block 0 (.loop (.seq (.seq (.reg (tm 11 (.t 5) (tm 12 (.t 0) (tq 13 (.len (.t 12)) (tq 14 (.bin .lss (.t 11) (.t 13)) .done)))))
 (.cond (.t 14) .skip
 (.exit 0)))
 (.seq (.block 1 (.seq (.reg (tm 17 (.t 0) (tm 18 (.t 5) (tq 19 (.iaddr 1 (.t 17) (.t 18)) (tq 20 (.load 1 false (.t 19)) (tm 21 (.t 1) (tm 22 (.t 5) (tq 23 (.iaddr 1 (.t 21) (.t 22)) (tq 24 (.load 1 false (.t 23)) (tq 25 (.bin .neq (.t 20) (.t 24)) .done))))))))))
 (.cond (.t 25) (.seq (.reg (tm 4 (.c (.bool false)) .done))
 .ret)
 .skip)))
 (.reg (tm 15 (.t 5) (tq 16 (.bin .add (.t 15) (.c (.int .i64 1))) (tm 5 (.t 16) .done)))))))))
 (.cut (.seq (.reg (tm 4 (.c (.bool true)) .done))
 .ret)))))
theorem f3u:a1b Tryz.prog Tryz.f24 = some (c24.erase,[.mov (.t 4)],26):=by kernel_rfl
def a3x (D:(List Str)):List Str → Nat → Option (Fl Bool Unit)
  | [],A =>
    some (.go ())
  | E :: xs,A =>
    (idx D (A:Int)).bind fun F =>
    if (!(E == F)) then
    some (.ret false)
    else
    a3x D xs (A + 1)

def a8o (B:(List Str)) (D:(List Str)):Option Bool :=
    if ((B.length:Int) != (D.length:Int)) then
    some false
    else
    (a3x D B 0).bind fun q => (match q with
    | .ret r => some r
    | .go _ =>
    some true)
theorem b7o (B:(List Str)) (D:(List Str)) (r:Bool) (hf:a8o B D = some r):a0a Tryz.prog 24 .flat [(.lst 1 (B.map AV.str)),(.lst 1 (D.map AV.str))] (.bool r):=by
 refine a0a.of_awp mixed Tryz.func24 f3u nle ?_;rw [a0l];unfold a8o at hf;unfold c24;refine (show awp Tryz.prog false 0 _ (ofL [(0,(.lst 1 (B.map AV.str))),(1,(.lst 1 (D.map AV.str)))]) [] _ from ?_);refine sr<|l7 (.bool false) rfl<|dk<|o7<|sr<|l7 (.lst 1 (B.map AV.str)) rfl<|a0y (a1o (enc:=AV.str) rfl) fun hl3 => l7 (.lst 1 (D.map AV.str)) rfl<|a0y (a1o (enc:=AV.str) rfl) fun hl4 => x8 (.bool ((B.length:Int) != (D.length:Int))) rfl rfl rfl<|dk<|?_
 rcases oi hf with ⟨c5,hf⟩ | ⟨c5,hf⟩
 ·refine y8 rfl c5<|sr<|l7 (.bool false) rfl<|dk<|a0e<|?_;obtain rfl:=os hf;exact a0g ⟨tr,tr⟩ rfl .r
 ·refine y9 rfl (bf c5)<|a0j<|a0i<|o7<|sr<|l7 (.I 0) rfl<|dk<|?_
  obtain ⟨p30,hb1,hf⟩:=ob hf
  refine a3j (X:={q:Unit // p30 = .go q}) (fun q => ([],[])) ?_ ?_
  ·refine a1f (X:={q:Nat // a3x D (B.drop q) q = some p30}) (fun q => ([(0,(.lst 1 (B.map AV.str))),(1,(.lst 1 (D.map AV.str))),(5,(.I (q.1:Int)))],[])) (fun q => B.length - q.1) ⟨0,hb1⟩ ⟨[],[],_,_,rfl,rfl,⟨.r,⟨.r,⟨.r,tr⟩⟩⟩,.r⟩ ?_
   rintro ⟨A,hc1⟩
   have hc1:a3x D (B.drop A) A = some p30:=hc1
   refine (show awp Tryz.prog false 0 _ (ofL [(0,(.lst 1 (B.map AV.str))),(1,(.lst 1 (D.map AV.str))),(5,(.I (A:Int)))]) [] _ from ?_)
   rcases a5n B A with ⟨hie33,hd36⟩ | ⟨hlt31,E,hx32,hd36⟩
   ·rw [hd36,a3x.eq_1] at hc1
    have hq35:=dlf hie33
    refine o7<|sr<|l7 (.I (A:Int)) rfl<|l7 (.lst 1 (B.map AV.str)) rfl<|a0y (a1o (enc:=AV.str) rfl) fun hl38 => x8 (.bool (decide ((A:Int) < (B.length:Int)))) rfl rfl rfl<|dk<|y9 rfl hq35<|a2l<|a2k<|a1t<|a2j<|?_;obtain rfl:=os hc1;exact a6i ⟨_,rfl⟩ ⟨[],[],_,_,rfl,rfl,tr,.r⟩
   ·rw [hd36,a3x.eq_2] at hc1
    have hq35:=dlt hlt31
    refine o7<|sr<|l7 (.I (A:Int)) rfl<|l7 (.lst 1 (B.map AV.str)) rfl<|a0y (a1o (enc:=AV.str) rfl) fun hl39 => x8 (.bool (decide ((A:Int) < (B.length:Int)))) rfl rfl rfl<|dk<|y8 rfl hq35<|a0j<|a0i<|o7<|a2x<|sr<|?_
    obtain ⟨F,ex41,hc1⟩:=ob hc1
    refine l7 (.lst 1 (B.map AV.str)) rfl<|l7 (.I (A:Int)) rfl<|x9 (a1n (enc:=AV.str) rfl rfl hx32)<|x8 (.str E) rfl ⟨rfl,rfl⟩ rfl<|l7 (.lst 1 (D.map AV.str)) rfl<|l7 (.I (A:Int)) rfl<|x9 (a6s (enc:=AV.str) rfl rfl (b3m ex41) (b3n ex41))<|x8 (.str F) rfl ⟨rfl,rfl⟩ rfl<|x8 (.bool (!(E == F))) rfl tr rfl<|dk<|?_
    rcases oi hc1 with ⟨c42,hc1⟩ | ⟨c42,hc1⟩
    ·refine y8 rfl c42<|sr<|l7 (.bool false) rfl<|dk<|a0e<|?_;obtain rfl:=os hc1;obtain rfl:=os hf;exact a0g ⟨tr,tr⟩ rfl .r
    ·refine y9 rfl (bf c42)<|a0j<|a2v<|a0i<|a0s<|l7 (.I (A:Int)) rfl<|x8 (.I (w64 ((A:Int) + 1))) rfl rfl rfl<|l7 (.I (w64 ((A:Int) + 1))) rfl<|a0h<|?_;exact a1m ⟨(A + 1),hc1⟩ (mul hlt31) ⟨[],[],_,_,rfl,rfl,⟨.r,⟨.r,⟨.of_eq (congrArg (AV.int _) (a1p hlt31 hl39)),tr⟩⟩⟩,.r⟩
  ·rintro ⟨_,rfl⟩
   refine sr<|l7 (.bool true) rfl<|dk<|a0e<|?_;obtain rfl:=os hf;exact a0g ⟨tr,tr⟩ rfl .r

/- laws.eqJsonS -/
def c99:a0m :=
 (.seq (.reg (tm 4 (.c (.bool false)) .done))
 (.seq (.seq (.reg (tm 6 (.t 0) (tq 7 (.len (.t 6)) (tm 8 (.t 1) (tq 9 (.len (.t 8)) (tq 10 (.bin .neq (.t 7) (.t 9)) .done))))))
 (.cond (.t 10) (.seq (.reg (tm 4 (.c (.bool false)) .done))
 .ret)
 .skip))
 (.seq (.seq (.reg (tm 5 (.c (.int .i64 0)) .done))
 (.block 0 (.loop (.seq (.seq (.reg (tm 11 (.t 5) (tm 12 (.t 0) (tq 13 (.len (.t 12)) (tq 14 (.bin .lss (.t 11) (.t 13)) .done)))))
 (.cond (.t 14) .skip
 (.exit 0)))
 (.seq (.block 1 (.seq (.reg (tm 17 (.t 0) (tm 18 (.t 5) (tq 19 (.iaddr 5 (.t 17) (.t 18)) (tq 20 (.load 5 true (.t 19)) (tm 21 (.t 1) (tm 22 (.t 5) (tq 23 (.iaddr 5 (.t 21) (.t 22)) (tq 24 (.load 5 true (.t 23)) (.l ⟨(some 25),none,.call 23 [(.t 20),(.t 24)]⟩ []
 (tq 26 (.not (.t 25)) .done) .non))))))))))
 (.cond (.t 26) (.seq (.reg (tm 4 (.c (.bool false)) .done))
 .ret)
 .skip)))
 (.reg (tm 15 (.t 5) (tq 16 (.bin .add (.t 15) (.c (.int .i64 1))) (tm 5 (.t 16) .done)))))))))
 (.cut (.seq (.reg (tm 4 (.c (.bool true)) .done))
 .ret)))))
theorem f3v:a1b Tryz.prog Tryz.f99 = some (c99.erase,[.mov (.t 4)],27):=by kernel_rfl
def a5k (D:(List o9)) (rec:(o9 → o9 → Option Bool)):List o9 → Nat → Option (Fl Bool Unit)
  | [],A =>
    some (.go ())
  | E :: xs,A =>
    (idx D (A:Int)).bind fun F =>
    (rec E F).bind fun G =>
    if (!G) then
    some (.ret false)
    else
    a5k D rec xs (A + 1)

def b0k (rec:(o9 → o9 → Option Bool)) (B:(List o9)) (D:(List o9)):Option Bool :=
    if ((B.length:Int) != (D.length:Int)) then
    some false
    else
    (a5k D rec B 0).bind fun q => (match q with
    | .ret r => some r
    | .go _ =>
    some true)
theorem c9i (rec:(o9 → o9 → Option Bool)) (hrec:∀ a0 a1 r,rec a0 a1 = some r → a0a Tryz.prog 23 .flat [(l9 a0),(l9 a1)] (.bool r)) (B:(List o9)) (D:(List o9)) (r:Bool) (hf:b0k rec B D = some r):a0a Tryz.prog 99 .flat [(.lst 5 (B.map l9)),(.lst 5 (D.map l9))] (.bool r):=by
 refine a0a.of_awp mixed Tryz.func99 f3v nle ?_;rw [a0l];unfold b0k at hf;unfold c99;refine (show awp Tryz.prog false 0 _ (ofL [(0,(.lst 5 (B.map l9))),(1,(.lst 5 (D.map l9)))]) [] _ from ?_);refine sr<|l7 (.bool false) rfl<|dk<|o7<|sr<|l7 (.lst 5 (B.map l9)) rfl<|a0y (a1o (enc:=l9) rfl) fun hl3 => l7 (.lst 5 (D.map l9)) rfl<|a0y (a1o (enc:=l9) rfl) fun hl4 => x8 (.bool ((B.length:Int) != (D.length:Int))) rfl rfl rfl<|dk<|?_
 rcases oi hf with ⟨c5,hf⟩ | ⟨c5,hf⟩
 ·refine y8 rfl c5<|sr<|l7 (.bool false) rfl<|dk<|a0e<|?_;obtain rfl:=os hf;exact a0g ⟨tr,tr⟩ rfl .r
 ·refine y9 rfl (bf c5)<|a0j<|a0i<|o7<|sr<|l7 (.I 0) rfl<|dk<|?_
  obtain ⟨p36,hb1,hf⟩:=ob hf
  refine a3j (X:={q:Unit // p36 = .go q}) (fun q => ([],[])) ?_ ?_
  ·refine a1f (X:={q:Nat // a5k D rec (B.drop q) q = some p36}) (fun q => ([(0,(.lst 5 (B.map l9))),(1,(.lst 5 (D.map l9))),(5,(.I (q.1:Int)))],[])) (fun q => B.length - q.1) ⟨0,hb1⟩ ⟨[],[],_,_,rfl,rfl,⟨.r,⟨.r,⟨.r,tr⟩⟩⟩,.r⟩ ?_
   rintro ⟨A,hc1⟩
   have hc1:a5k D rec (B.drop A) A = some p36:=hc1
   refine (show awp Tryz.prog false 0 _ (ofL [(0,(.lst 5 (B.map l9))),(1,(.lst 5 (D.map l9))),(5,(.I (A:Int)))]) [] _ from ?_)
   rcases a5n B A with ⟨hie39,hd42⟩ | ⟨hlt37,E,hx38,hd42⟩
   ·rw [hd42,a5k.eq_1] at hc1
    have hq41:=dlf hie39
    refine o7<|sr<|l7 (.I (A:Int)) rfl<|l7 (.lst 5 (B.map l9)) rfl<|a0y (a1o (enc:=l9) rfl) fun hl44 => x8 (.bool (decide ((A:Int) < (B.length:Int)))) rfl rfl rfl<|dk<|y9 rfl hq41<|a2l<|a2k<|a1t<|a2j<|?_;obtain rfl:=os hc1;exact a6i ⟨_,rfl⟩ ⟨[],[],_,_,rfl,rfl,tr,.r⟩
   ·rw [hd42,a5k.eq_2] at hc1
    have hq41:=dlt hlt37
    refine o7<|sr<|l7 (.I (A:Int)) rfl<|l7 (.lst 5 (B.map l9)) rfl<|a0y (a1o (enc:=l9) rfl) fun hl45 => x8 (.bool (decide ((A:Int) < (B.length:Int)))) rfl rfl rfl<|dk<|y8 rfl hq41<|a0j<|a0i<|o7<|a2x<|sr<|?_
    obtain ⟨F,ex47,hc1⟩:=ob hc1
    obtain ⟨G,er49,hc1⟩:=ob hc1
    refine l7 (.lst 5 (B.map l9)) rfl<|l7 (.I (A:Int)) rfl<|x9 (a1n (enc:=l9) rfl rfl hx38)<|x9 (a8k (v:=(.agg [(.I E.Kind),(.I E.N),(.str E.T),(.lst 1 (E.Keys.map AV.str)),(.lst 5 (E.Items.map l9))])) rfl (o8 _) nle rfl)<|l7 (.lst 5 (D.map l9)) rfl<|l7 (.I (A:Int)) rfl<|x9 (a6s (enc:=l9) rfl rfl (b3m ex47) (b3n ex47))<|x9 (a8k (v:=(.agg [(.I F.Kind),(.I F.N),(.str F.T),(.lst 1 (F.Keys.map AV.str)),(.lst 5 (F.Items.map l9))])) rfl (o8 _) nle rfl)<|a0w (a0n (hrec _ _ _ er49) rfl (.cons (.of_eq (o8 E).symm) (.cons (.of_eq (o8 F).symm) .nil)) rfl) a6n tr<|?_
    refine x8 (.bool (!G)) rfl tr rfl<|dk<|?_
    rcases oi hc1 with ⟨c50,hc1⟩ | ⟨c50,hc1⟩
    ·refine y8 rfl c50<|sr<|l7 (.bool false) rfl<|dk<|a0e<|?_;obtain rfl:=os hc1;obtain rfl:=os hf;exact a0g ⟨tr,tr⟩ rfl .r
    ·refine y9 rfl (bf c50)<|a0j<|a2v<|a0i<|a0s<|l7 (.I (A:Int)) rfl<|x8 (.I (w64 ((A:Int) + 1))) rfl rfl rfl<|l7 (.I (w64 ((A:Int) + 1))) rfl<|a0h<|?_;exact a1m ⟨(A + 1),hc1⟩ (mul hlt37) ⟨[],[],_,_,rfl,rfl,⟨.r,⟨.r,⟨.of_eq (congrArg (AV.int _) (a1p hlt37 hl45)),tr⟩⟩⟩,.r⟩
  ·rintro ⟨_,rfl⟩
   refine sr<|l7 (.bool true) rfl<|dk<|a0e<|?_;obtain rfl:=os hf;exact a0g ⟨tr,tr⟩ rfl .r

/- laws.eqJson -/
def c23:a0m :=
 (.seq (.reg (tq 2 (.box 5 (.t 0)) (tq 3 (.box 5 (.t 1)) (tm 4 (.c (.bool false)) .done))))
 (.seq (.seq (.reg (tq 5 (.faddr 0 (.t 2)) (tq 6 (.load 1 false (.t 5)) (tq 7 (.faddr 0 (.t 3)) (tq 8 (.load 1 false (.t 7)) (tq 9 (.bin .neq (.t 6) (.t 8)) .done))))))
 (.cond (.t 9) (.seq (.reg (tm 4 (.c (.bool false)) .done))
 .ret)
 .skip))
 (.seq (.seq (.reg (tq 10 (.faddr 1 (.t 2)) (tq 11 (.load 1 false (.t 10)) (tq 12 (.faddr 1 (.t 3)) (tq 13 (.load 1 false (.t 12)) (tq 14 (.bin .neq (.t 11) (.t 13)) .done))))))
 (.cond (.t 14) (.seq (.reg (tm 4 (.c (.bool false)) .done))
 .ret)
 .skip))
 (.seq (.seq (.reg (tq 15 (.faddr 2 (.t 2)) (tq 16 (.load 1 false (.t 15)) (tq 17 (.faddr 2 (.t 3)) (tq 18 (.load 1 false (.t 17)) (tq 19 (.bin .neq (.t 16) (.t 18)) .done))))))
 (.cond (.t 19) (.seq (.reg (tm 4 (.c (.bool false)) .done))
 .ret)
 .skip))
 (.seq (.seq (.reg (tq 20 (.faddr 3 (.t 2)) (tq 21 (.load 1 false (.t 20)) (tq 22 (.faddr 3 (.t 3)) (tq 23 (.load 1 false (.t 22)) (tq 24 (.call 24 [(.t 21),(.t 23)]) (tq 25 (.not (.t 24)) .done)))))))
 (.cond (.t 25) (.seq (.reg (tm 4 (.c (.bool false)) .done))
 .ret)
 .skip))
 (.seq (.seq (.reg (tq 26 (.faddr 4 (.t 2)) (tq 27 (.load 1 false (.t 26)) (tq 28 (.faddr 4 (.t 3)) (tq 29 (.load 1 false (.t 28)) (tq 30 (.call 99 [(.t 27),(.t 29)]) (tq 31 (.not (.t 30)) .done)))))))
 (.cond (.t 31) (.seq (.reg (tm 4 (.c (.bool false)) .done))
 .ret)
 .skip))
 (.seq (.reg (tm 4 (.c (.bool true)) .done))
 .ret)))))))
theorem f3w:a1b Tryz.prog Tryz.f23 = some (c23.erase,[.mov (.t 4)],32):=by kernel_rfl
def b4b (rec:(o9 → o9 → Option Bool)) (A:o9) (B:o9):Option Bool :=
    if (A.Kind != B.Kind) then
    some false
    else
    if (A.N != B.N) then
    some false
    else
    if (!(A.T == B.T)) then
    some false
    else
    (a8o A.Keys B.Keys).bind fun D =>
    if (!D) then
    some false
    else
    (b0k rec A.Items B.Items).bind fun E =>
    if (!E) then
    some false
    else
    some true
theorem c6v (rec:(o9 → o9 → Option Bool)) (hrec:∀ a0 a1 r,rec a0 a1 = some r → a0a Tryz.prog 23 .flat [(l9 a0),(l9 a1)] (.bool r)) (A:o9) (B:o9) (r:Bool) (hf:b4b rec A B = some r):a0a Tryz.prog 23 .flat [(l9 A),(l9 B)] (.bool r):=by
 refine a0a.of_awp mixed Tryz.func23 f3w nle ?_;rw [a0l];rw [o8 A,o8 B];unfold b4b at hf;unfold c23;refine (show awp Tryz.prog false 0 _ (ofL [(0,(.agg [(.I A.Kind),(.I A.N),(.str A.T),(.lst 1 (A.Keys.map AV.str)),(.lst 5 (A.Items.map l9))])),(1,(.agg [(.I B.Kind),(.I B.N),(.str B.T),(.lst 1 (B.Keys.map AV.str)),(.lst 5 (B.Items.map l9))]))]) [] _ from ?_);refine sr<|x9 (a1j (j:=0) (c:=(.agg [(.I A.Kind),(.I A.N),(.str A.T),(.lst 1 (A.Keys.map AV.str)),(.lst 5 (A.Items.map l9))])) rfl tr rfl rfl)<|x9 (a1j (j:=1) (c:=(.agg [(.I B.Kind),(.I B.N),(.str B.T),(.lst 1 (B.Keys.map AV.str)),(.lst 5 (B.Items.map l9))])) rfl tr rfl rfl)<|?_
 refine l7 (.bool false) rfl<|dk<|o7<|sr<|x8 (.ptr 0 0 0) rfl tr rfl<|x8 (.I A.Kind) rfl nle rfl<|x8 (.ptr 1 0 0) rfl tr rfl<|x8 (.I B.Kind) rfl nle rfl<|x8 (.bool (A.Kind != B.Kind)) rfl rfl rfl<|dk<|?_
 rcases oi hf with ⟨c3,hf⟩ | ⟨c3,hf⟩
 ·refine y8 rfl c3<|sr<|l7 (.bool false) rfl<|dk<|a0e<|?_;obtain rfl:=os hf;exact a0g ⟨tr,tr⟩ rfl .r
 ·refine y9 rfl (bf c3)<|a0j<|a0i<|o7<|sr<|x8 (.ptr 0 0 1) rfl tr rfl<|x8 (.I A.N) rfl nle rfl<|x8 (.ptr 1 0 1) rfl tr rfl<|x8 (.I B.N) rfl nle rfl<|x8 (.bool (A.N != B.N)) rfl rfl rfl<|dk<|?_
  rcases oi hf with ⟨c4,hf⟩ | ⟨c4,hf⟩
  ·refine y8 rfl c4<|sr<|l7 (.bool false) rfl<|dk<|a0e<|?_;obtain rfl:=os hf;exact a0g ⟨tr,tr⟩ rfl .r
  ·refine y9 rfl (bf c4)<|a0j<|a0i<|o7<|sr<|x8 (.ptr 0 0 2) rfl tr rfl<|x8 (.str A.T) rfl nle rfl<|x8 (.ptr 1 0 2) rfl tr rfl<|x8 (.str B.T) rfl nle rfl<|x8 (.bool (!(A.T == B.T))) rfl tr rfl<|dk<|?_
   rcases oi hf with ⟨c5,hf⟩ | ⟨c5,hf⟩
   ·refine y8 rfl c5<|sr<|l7 (.bool false) rfl<|dk<|a0e<|?_;obtain rfl:=os hf;exact a0g ⟨tr,tr⟩ rfl .r
   ·refine y9 rfl (bf c5)<|a0j<|a0i<|o7<|sr<|?_
    obtain ⟨D,er7,hf⟩:=ob hf
    refine x8 (.ptr 0 0 3) rfl tr rfl<|x8 (.lst 1 (A.Keys.map AV.str)) rfl nle rfl<|x8 (.ptr 1 0 3) rfl tr rfl<|x8 (.lst 1 (B.Keys.map AV.str)) rfl nle rfl<|x9 (a0n (b7o _ _ _ er7) rfl .r rfl)<|x8 (.bool (!D)) rfl tr rfl<|dk<|?_
    rcases oi hf with ⟨c8,hf⟩ | ⟨c8,hf⟩
    ·refine y8 rfl c8<|sr<|l7 (.bool false) rfl<|dk<|a0e<|?_;obtain rfl:=os hf;exact a0g ⟨tr,tr⟩ rfl .r
    ·refine y9 rfl (bf c8)<|a0j<|a0i<|o7<|sr<|?_
     obtain ⟨E,er10,hf⟩:=ob hf
     refine x8 (.ptr 0 0 4) rfl tr rfl<|x8 (.lst 5 (A.Items.map l9)) rfl nle rfl<|x8 (.ptr 1 0 4) rfl tr rfl<|x8 (.lst 5 (B.Items.map l9)) rfl nle rfl<|x9 (a0n (c9i rec hrec _ _ _ er10) rfl .r rfl)<|x8 (.bool (!E)) rfl tr rfl<|dk<|?_
     rcases oi hf with ⟨c11,hf⟩ | ⟨c11,hf⟩
     ·refine y8 rfl c11<|sr<|l7 (.bool false) rfl<|dk<|a0e<|?_;obtain rfl:=os hf;exact a0g ⟨tr,tr⟩ rfl .r
     ·refine y9 rfl (bf c11)<|a0j<|a0i<|sr<|l7 (.bool true) rfl<|dk<|a0e<|?_;obtain rfl:=os hf;exact a0g ⟨tr,tr⟩ rfl .r
def a6g:Nat → o9 → o9 → Option Bool
 | 0,_,_ => none
 | k + 1,A,B => b4b (a6g k) A B
theorem a9j:∀ (k:Nat) (A:o9) (B:o9) (r:Bool),a6g k A B = some r → a0a Tryz.prog 23 .flat [(l9 A),(l9 B)] (.bool r)
 | 0,A,B,r,h => by rw [a6g.eq_1] at h;cases h
 | k + 1,A,B,r,h => by
  rw [a6g.eq_2] at h;exact c6v _ (a9j k) A B r h

/- laws.eqAtom -/
def f2l:a0m :=
 (.seq (.reg (tq 2 (.box 3 (.t 0)) (tq 3 (.box 3 (.t 1)) (tm 4 (.c (.bool false)) .done))))
 (.seq (.seq (.reg (tq 5 (.faddr 0 (.t 2)) (tq 6 (.load 1 false (.t 5)) (tq 7 (.faddr 0 (.t 3)) (tq 8 (.load 1 false (.t 7)) (tq 9 (.bin .neq (.t 6) (.t 8)) .done))))))
 (.cond (.t 9) (.seq (.reg (tm 4 (.c (.bool false)) .done))
 .ret)
 .skip))
 (.seq (.seq (.reg (tq 10 (.faddr 1 (.t 2)) (tq 11 (.load 1 false (.t 10)) (tq 12 (.faddr 1 (.t 3)) (tq 13 (.load 1 false (.t 12)) (tq 14 (.bin .neq (.t 11) (.t 13)) .done))))))
 (.cond (.t 14) (.seq (.reg (tm 4 (.c (.bool false)) .done))
 .ret)
 .skip))
 (.seq (.seq (.reg (tq 15 (.faddr 2 (.t 2)) (tq 16 (.load 1 false (.t 15)) (tq 17 (.faddr 2 (.t 3)) (tq 18 (.load 1 false (.t 17)) (tq 19 (.bin .neq (.t 16) (.t 18)) .done))))))
 (.cond (.t 19) (.seq (.reg (tm 4 (.c (.bool false)) .done))
 .ret)
 .skip))
 (.seq (.reg (tm 4 (.c (.bool true)) .done))
 .ret)))))
theorem f2m:a1b Tryz.prog Tryz.f289 = some (f2l.erase,[.mov (.t 4)],20):=by kernel_rfl
def b4r (A:a0k) (B:a0k):Option Bool :=
    if (A.Kind != B.Kind) then
    some false
    else
    if (A.N != B.N) then
    some false
    else
    if (!(A.T == B.T)) then
    some false
    else
    some true
theorem d0x (A:a0k) (B:a0k) (r:Bool) (hf:b4r A B = some r):a0a Tryz.prog 289 .flat [(o6 A),(o6 B)] (.bool r):=by
 refine a0a.of_awp mixed Tryz.func289 f2m nle ?_;rw [a0l];unfold b4r at hf;unfold f2l;refine (show awp Tryz.prog false 0 _ (ofL [(0,(o6 A)),(1,(o6 B))]) [] _ from ?_);refine sr<|x9 (a1j (j:=0) (c:=(.agg [(.I A.Kind),(.I A.N),(.str A.T)])) rfl tr rfl rfl)<|x9 (a1j (j:=1) (c:=(.agg [(.I B.Kind),(.I B.N),(.str B.T)])) rfl tr rfl rfl)<|l7 (.bool false) rfl<|dk<|o7<|sr<|x8 (.ptr 0 0 0) rfl tr rfl<|x8 (.I A.Kind) rfl nle rfl<|x8 (.ptr 1 0 0) rfl tr rfl<|x8 (.I B.Kind) rfl nle rfl<|x8 (.bool (A.Kind != B.Kind)) rfl rfl rfl<|?_
 refine dk<|?_
 rcases oi hf with ⟨c3,hf⟩ | ⟨c3,hf⟩
 ·refine y8 rfl c3<|sr<|l7 (.bool false) rfl<|dk<|a0e<|?_;obtain rfl:=os hf;exact a0g ⟨tr,tr⟩ rfl .r
 ·refine y9 rfl (bf c3)<|a0j<|a0i<|o7<|sr<|x8 (.ptr 0 0 1) rfl tr rfl<|x8 (.I A.N) rfl nle rfl<|x8 (.ptr 1 0 1) rfl tr rfl<|x8 (.I B.N) rfl nle rfl<|x8 (.bool (A.N != B.N)) rfl rfl rfl<|dk<|?_
  rcases oi hf with ⟨c4,hf⟩ | ⟨c4,hf⟩
  ·refine y8 rfl c4<|sr<|l7 (.bool false) rfl<|dk<|a0e<|?_;obtain rfl:=os hf;exact a0g ⟨tr,tr⟩ rfl .r
  ·refine y9 rfl (bf c4)<|a0j<|a0i<|o7<|sr<|x8 (.ptr 0 0 2) rfl tr rfl<|x8 (.str A.T) rfl nle rfl<|x8 (.ptr 1 0 2) rfl tr rfl<|x8 (.str B.T) rfl nle rfl<|x8 (.bool (!(A.T == B.T))) rfl tr rfl<|dk<|?_
   rcases oi hf with ⟨c5,hf⟩ | ⟨c5,hf⟩
   ·refine y8 rfl c5<|sr<|l7 (.bool false) rfl<|dk<|a0e<|?_;obtain rfl:=os hf;exact a0g ⟨tr,tr⟩ rfl .r
   ·refine y9 rfl (bf c5)<|a0j<|a0i<|sr<|l7 (.bool true) rfl<|dk<|a0e<|?_;obtain rfl:=os hf;exact a0g ⟨tr,tr⟩ rfl .r

end Go.R
