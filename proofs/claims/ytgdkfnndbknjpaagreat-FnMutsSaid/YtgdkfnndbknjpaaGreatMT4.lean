/- Walks. -/
import Derived.Test.YtgdkfnndbknjpaaGreatMT3
set_option linter.all false
namespace Go.R
open Go Go.Proofs
set_option linter.unusedVariables false
set_option linter.unusedSimpArgs false
set_option maxHeartbeats 8000000
/- spec.l07OK -/
def c138:a0n :=
 (.seq (.reg (tq 1 (.box 3 (.t 0)) (tm 2 (.c (.bool false)) .done)))
 (.seq (.reg (tq 3 (.faddr 1 (.t 1)) (tq 4 (.load 1 false (.t 3)) (tq 5 (.call 158 [(.t 4),(.c (.int .i64 1)),(.c (.int .i64 7))]) (tm 6 (.t 5) (tg 7 6 true (.faddr 2 (.t 1)) (tg 8 6 true (.load 1 false (.t 7)) (tg 9 6 true (.call 170 [(.t 8)]) (tq 10 (.pick (.t 6) (.t 9) (.c (.bool false))) (tm 11 (.t 10) (tg 12 11 true (.faddr 0 (.t 1)) (tg 13 11 true (.load 1 false (.t 12)) (tg 14 11 true (.lenS (.t 13)) (tg 15 11 true (.bin .leq (.t 14) (.c (.int .i64 40))) (tq 16 (.pick (.t 11) (.t 15) (.c (.bool false))) (tm 2 (.t 16) .done))))))))))))))))
 .ret))
theorem e6r:a1c Tryz.prog Tryz.f138 = some (c138.erase,[.mov (.t 2)],17):=by kernel_rfl
def b1z (m_1:a2w):Option Bool :=
    (a3r m_1.Func 1 7).bind fun r_2 =>
    if r_2 then
    (a9m m_1.Value).bind fun r_5 =>
    some (bif r_5 then (decide ((m_1.Column.length:Int) ≤ 40)) else false)
    else
    some false
theorem b9i (m_1:a2w) (r:Bool) (hf:b1z m_1 = some r):y8 Tryz.prog 138 .flat [(a0c m_1)] (.bool r):=by
 refine y8.of_awp mixed Tryz.func138 e6r nle ?_;rw [a0h];unfold b1z at hf;unfold c138;refine (show awp Tryz.prog false 0 _ (ofL [(0,(a0c m_1))]) [] _ from ?_);refine sr<|x8 (a1o (j:=0) (c:=(.agg [(.str m_1.Column),(.int .i64 m_1.Func),(.lst 3 (m_1.Value.map l7))])) rfl trivial rfl rfl)<|l9 (.bool false) rfl<|dk<|sr<|o7 (.ptr 0 0 1) rfl trivial rfl<|o7 (.int .i64 m_1.Func) rfl nle rfl<|?_
 obtain ⟨r_2,er3,hf⟩:=ob hf
 refine x8 (a0g (a3b _ _ _ _ er3) rfl (.refl _) rfl)<|l9 (.bool r_2) rfl<|?_
 rcases oi hf with ⟨c4,hf⟩ | ⟨c4,hf⟩
 ·refine a0u (s:=6) (b:=true) rfl c4<|s_on rfl<|o7 (.ptr 0 0 2) rfl trivial rfl<|s_on rfl<|o7 (.lst 3 (m_1.Value.map l7)) rfl nle rfl<|s_on rfl<|?_
  obtain ⟨r_5,er6,hf⟩:=ob hf
  refine x8 (a0g (b6i _ _ er6) rfl (.refl _) rfl)<|o7 (.bool r_5) rfl trivial rfl<|l9 (.bool r_5) rfl<|?_;refine s_g (v:=r_5) (.ptr 0 0 0) rfl (fun hv => by (try simp only [a0i hv]);exact ⟨rfl,trivial,rfl⟩) ?_;refine s_g (v:=r_5) (.str m_1.Column) rfl (fun hv => by (try simp only [a0i hv]);exact ⟨rfl,nle,rfl⟩) ?_;refine s_g (v:=r_5) (.int .i64 (m_1.Column.length:Int)) rfl (fun hv => by (try simp only [a0i hv]);exact ⟨rfl,trivial,rfl⟩) ?_;refine s_g (v:=r_5) (.bool (decide ((m_1.Column.length:Int) ≤ 40))) rfl (fun hv => by (try simp only [a0i hv]);exact ⟨rfl,rfl,rfl⟩) ?_;refine a6l (x:=(decide ((m_1.Column.length:Int) ≤ 40))) (y:=false) rfl (fun hv => by (try simp only [a0i hv]);rfl) (fun hv => by (try simp only [a0i hv]);rfl) ?_
  refine l9 (.bool (bif r_5 then (decide ((m_1.Column.length:Int) ≤ 40)) else false)) rfl<|dk<|a0a<|?_;obtain rfl:=os hf;exact a0d ⟨trivial,trivial⟩ rfl (.refl _)
 ·refine a0u (s:=6) (b:=false) rfl (bf c4)<|o9 rfl rfl<|o9 rfl rfl<|o9 rfl rfl<|o7 (.bool false) rfl trivial rfl<|l9 (.bool false) rfl<|o9 rfl rfl<|o9 rfl rfl<|o9 rfl rfl<|o9 rfl rfl<|o7 (.bool false) rfl trivial rfl<|l9 (.bool false) rfl<|dk<|a0a<|?_;obtain rfl:=os hf;exact a0d ⟨trivial,trivial⟩ rfl (.refl _)

/- spec.l07List -/
def e6s:a0n :=
 (.seq (.reg (tm 2 (.c (.bool false)) .done))
 (.seq (.seq (.reg (tm 3 (.c (.int .i64 0)) .done))
 (.block 0 (.loop (.seq (.seq (.reg (tm 4 (.t 3) (tm 5 (.t 0) (tq 6 (.len (.t 5)) (tq 7 (.bin .lss (.t 4) (.t 6)) .done)))))
 (.cond (.t 7) .skip
 (.exit 0)))
 (.seq (.block 1 (.seq (.reg (tm 10 (.t 0) (tm 11 (.t 3) (tq 12 (.iaddr 3 (.t 10) (.t 11)) (tq 13 (.load 3 true (.t 12)) (tq 14 (.call 138 [(.t 13)]) (tq 15 (.not (.t 14)) .done)))))))
 (.cond (.t 15) (.seq (.reg (tm 2 (.c (.bool false)) .done))
 .ret)
 .skip)))
 (.reg (tm 8 (.t 3) (tq 9 (.bin .add (.t 8) (.c (.int .i64 1))) (tm 3 (.t 9) .done)))))))))
 (.cut (.seq (.reg (tm 16 (.t 0) (tq 17 (.len (.t 16)) (tq 18 (.bin .leq (.t 17) (.c (.int .i64 8))) (tm 2 (.t 18) .done)))))
 .ret))))
theorem e6t:a1c Tryz.prog Tryz.f129 = some (e6s.erase,[.mov (.t 2)],19):=by kernel_rfl
def a5f :List a2w → Option (Fl Bool Unit)
  | [] =>
    some (.go ())
  | x_33 :: xs =>
    (b1z x_33).bind fun r_36 =>
    if (!r_36) then
    some (.ret false)
    else
    a5f xs 

def a9o (list_1:(List a2w)):Option Bool :=
    (a5f list_1 ).bind fun q => (match q with
    | .ret r => some r
    | .go _ =>
    some (decide ((list_1.length:Int) ≤ 8)))
theorem c4k (list_1:(List a2w)) (r:Bool) (hf:a9o list_1 = some r):y8 Tryz.prog 129 .flat [(.lst 3 (list_1.map a0c))] (.bool r):=by
 refine y8.of_awp mixed Tryz.func129 e6t nle ?_;rw [a0h];unfold a9o at hf;unfold e6s;refine (show awp Tryz.prog false 0 _ (ofL [(0,(.lst 3 (list_1.map a0c)))]) [] _ from ?_);refine sr<|l9 (.bool false) rfl<|dk<|o6<|sr<|l9 (.int .i64 0) rfl<|dk<|?_
 obtain ⟨p26,hb1,hf⟩:=ob hf
 refine a2i (X:={q:Unit // p26 = .go q}) (fun q => ([(0,(.lst 3 (list_1.map a0c)))],[])) ?_ ?_
 ·refine a1m (X:={q:Nat // a5f (list_1.drop q)  = some p26}) (fun q => ([(0,(.lst 3 (list_1.map a0c))),(3,(.int .i64 (q.1:Int)))],[])) (fun q => list_1.length - q.1) ⟨0,hb1⟩ ⟨[],[],_,_,rfl,rfl,⟨.refl _,⟨.refl _,trivial⟩⟩,(.refl _)⟩ ?_
  rintro ⟨i_17,hc1⟩
  have hc1:a5f (list_1.drop i_17)  = some p26:=hc1
  refine (show awp Tryz.prog false 0 _ (ofL [(0,(.lst 3 (list_1.map a0c))),(3,(.int .i64 (i_17:Int)))]) [] _ from ?_)
  rcases a5p list_1 i_17 with ⟨hie29,hd32⟩ | ⟨hlt27,x_33,hx28,hd32⟩
  ·rw [hd32,a5f.eq_1] at hc1
   have hq31:=dlf hie29
   refine o6<|sr<|l9 (.int .i64 (i_17:Int)) rfl<|l9 (.lst 3 (list_1.map a0c)) rfl<|a1e (a1p (enc:=a0c) rfl) fun hl34 => o7 (.bool (decide ((i_17:Int) < (list_1.length:Int)))) rfl rfl rfl<|dk<|y5 rfl hq31<|a2u<|a2t<|a1x<|a2s<|?_;obtain rfl:=os hc1;exact a3h ⟨_,rfl⟩ ⟨[],[],_,_,rfl,rfl,⟨.refl _,trivial⟩,(.refl _)⟩
  ·rw [hd32,a5f.eq_2] at hc1
   have hq31:=dlt hlt27
   refine o6<|sr<|l9 (.int .i64 (i_17:Int)) rfl<|l9 (.lst 3 (list_1.map a0c)) rfl<|a1e (a1p (enc:=a0c) rfl) fun hl35 => o7 (.bool (decide ((i_17:Int) < (list_1.length:Int)))) rfl rfl rfl<|dk<|x9 rfl hq31<|a0e<|a0f<|o6<|a3c<|sr<|?_
   obtain ⟨r_36,er37,hc1⟩:=ob hc1
   refine l9 (.lst 3 (list_1.map a0c)) rfl<|l9 (.int .i64 (i_17:Int)) rfl<|x8 (a1r (enc:=a0c) rfl rfl hx28)<|o7 (a0c x_33) rfl nle rfl<|x8 (a0g (b9i _ _ er37) rfl (.refl _) rfl)<|o7 (.bool (!r_36)) rfl trivial rfl<|dk<|?_
   rcases oi hc1 with ⟨c38,hc1⟩ | ⟨c38,hc1⟩
   ·refine x9 rfl c38<|sr<|l9 (.bool false) rfl<|dk<|a0a<|?_;obtain rfl:=os hc1;obtain rfl:=os hf;exact a0d ⟨trivial,trivial⟩ rfl (.refl _)
   ·refine y5 rfl (bf c38)<|a0e<|a2c<|a0f<|a0k<|l9 (.int .i64 (i_17:Int)) rfl<|o7 (.int .i64 (w64 ((i_17:Int) + 1))) rfl rfl rfl<|l9 (.int .i64 (w64 ((i_17:Int) + 1))) rfl<|y7<|?_;exact a1t ⟨(i_17 + 1),hc1⟩ (mul hlt27) ⟨[],[],_,_,rfl,rfl,⟨.refl _,⟨.of_eq (congrArg (AV.int _) (a1w hlt27 hl35)),trivial⟩⟩,(.refl _)⟩
 ·rintro ⟨_,rfl⟩
  refine sr<|l9 (.lst 3 (list_1.map a0c)) rfl<|a1e (a1p (enc:=a0c) rfl) fun hl39 => o7 (.bool (decide ((list_1.length:Int) ≤ 8))) rfl rfl rfl<|l9 (.bool (decide ((list_1.length:Int) ≤ 8))) rfl<|dk<|a0a<|?_;obtain rfl:=os hf;exact a0d ⟨trivial,trivial⟩ rfl (.refl _)

/- spec.l04Column -/
def e6u:a0n :=
 (.seq (.reg (tq 2 (.box 4 (.t 0)) (tm 4 (.c (.int .i64 0)) .done)))
 (.seq (.seq (.reg (tm 5 (.c (.int .i64 0)) .done))
 (.block 0 (.loop (.seq (.seq (.reg (tm 6 (.t 5) (tq 7 (.faddr 1 (.t 2)) (tq 8 (.load 1 false (.t 7)) (tq 9 (.len (.t 8)) (tq 10 (.bin .lss (.t 6) (.t 9)) .done))))))
 (.cond (.t 10) .skip
 (.exit 0)))
 (.seq (.block 1 (.seq (.reg (tq 13 (.faddr 1 (.t 2)) (tq 14 (.load 1 false (.t 13)) (tm 15 (.t 5) (tq 16 (.iaddr 8 (.t 14) (.t 15)) (tq 17 (.faddr 0 (.t 16)) (tq 18 (.load 1 false (.t 17)) (tm 19 (.t 1) (tq 20 (.bin .eql (.t 18) (.t 19)) .done)))))))))
 (.cond (.t 20) (.seq (.reg (tm 21 (.t 5) (tm 4 (.t 21) .done)))
 .ret)
 .skip)))
 (.reg (tm 11 (.t 5) (tq 12 (.bin .add (.t 11) (.c (.int .i64 1))) (tm 5 (.t 12) .done)))))))))
 (.cut (.seq (.reg (tq 4 (.mov (.c (.int .i64 (-1)))) .done))
 .ret))))
theorem e6v:a1c Tryz.prog Tryz.f235 = some (e6u.erase,[.mov (.t 4)],22):=by kernel_rfl
def a4d (name_2:Str):List a0m → Nat → Option (Fl Int Unit)
  | [],i_14 =>
    some (.go ())
  | x_28 :: xs,i_14 =>
    if (x_28.Name == name_2) then
    some (.ret (i_14:Int))
    else
    a4d name_2 xs (i_14 + 1)

def a6v (t_1:a0w) (name_2:Str):Option Int :=
    (a4d name_2 t_1.Columns 0).bind fun q => (match q with
    | .ret r => some r
    | .go _ =>
    some (-1))
theorem b4r (t_1:a0w) (name_2:Str) (r:Int) (hf:a6v t_1 name_2 = some r):y8 Tryz.prog 235 .flat [(a1b t_1),(.str name_2)] (.int .i64 r):=by
 refine y8.of_awp mixed Tryz.func235 e6v nle ?_;rw [a0h];unfold a6v at hf;unfold e6u;refine (show awp Tryz.prog false 0 _ (ofL [(0,(a1b t_1)),(1,(.str name_2))]) [] _ from ?_);refine sr<|x8 (a1o (j:=0) (c:=(.agg [(.str t_1.Name),(.lst 8 (t_1.Columns.map o5)),(.lst 1 (t_1.Unique.map encI)),(.bool t_1.Root)])) rfl trivial rfl rfl)<|l9 (.int .i64 0) rfl<|dk<|o6<|sr<|l9 (.int .i64 0) rfl<|dk<|?_
 obtain ⟨p21,hb1,hf⟩:=ob hf
 refine a2i (X:={q:Unit // p21 = .go q}) (fun q => ([],[])) ?_ ?_
 ·refine a1m (X:={q:Nat // a4d name_2 (t_1.Columns.drop q) q = some p21}) (fun q => ([(1,(.str name_2)),(2,(.ptr 0 0 0)),(5,(.int .i64 (q.1:Int)))],[.box 4 (.agg [(.str t_1.Name),(.lst 8 (t_1.Columns.map o5)),(.lst 1 (t_1.Unique.map encI)),(.bool t_1.Root)])])) (fun q => t_1.Columns.length - q.1) ⟨0,hb1⟩ ⟨[],[0],_,_,rfl,rfl,⟨.refl _,⟨.refl _,⟨.refl _,trivial⟩⟩⟩,(.refl _)⟩ ?_
  rintro ⟨i_14,hc1⟩
  have hc1:a4d name_2 (t_1.Columns.drop i_14) i_14 = some p21:=hc1
  refine (show awp Tryz.prog false 0 _ (ofL [(1,(.str name_2)),(2,(.ptr 0 0 0)),(5,(.int .i64 (i_14:Int)))]) [.box 4 (.agg [(.str t_1.Name),(.lst 8 (t_1.Columns.map o5)),(.lst 1 (t_1.Unique.map encI)),(.bool t_1.Root)])] _ from ?_)
  rcases a5p t_1.Columns i_14 with ⟨hie24,hd27⟩ | ⟨hlt22,x_28,hx23,hd27⟩
  ·rw [hd27,a4d.eq_1] at hc1
   have hq26:=dlf hie24
   refine o6<|sr<|l9 (.int .i64 (i_14:Int)) rfl<|o7 (.ptr 0 0 1) rfl trivial rfl<|o7 (.lst 8 (t_1.Columns.map o5)) rfl nle rfl<|a1e (a1p (enc:=o5) rfl) fun hl29 => o7 (.bool (decide ((i_14:Int) < (t_1.Columns.length:Int)))) rfl rfl rfl<|dk<|y5 rfl hq26<|a2u<|a2t<|a1x<|a2s<|?_;obtain rfl:=os hc1;exact a3h ⟨_,rfl⟩ ⟨[],[],_,_,rfl,rfl,trivial,(.refl _)⟩
  ·rw [hd27,a4d.eq_2] at hc1
   have hq26:=dlt hlt22
   refine o6<|sr<|l9 (.int .i64 (i_14:Int)) rfl<|o7 (.ptr 0 0 1) rfl trivial rfl<|o7 (.lst 8 (t_1.Columns.map o5)) rfl nle rfl<|a1e (a1p (enc:=o5) rfl) fun hl30 => o7 (.bool (decide ((i_14:Int) < (t_1.Columns.length:Int)))) rfl rfl rfl<|dk<|x9 rfl hq26<|a0e<|a0f<|o6<|a3c<|sr<|o7 (.ptr 0 0 1) rfl trivial rfl<|o7 (.lst 8 (t_1.Columns.map o5)) rfl nle rfl<|l9 (.int .i64 (i_14:Int)) rfl<|x8 (a1r (enc:=o5) rfl rfl hx23)<|o7 (.iptr (o5 x_28) 0) rfl trivial rfl<|o7 (.str x_28.Name) rfl nle rfl<|l9 (.str name_2) rfl<|o7 (.bool (x_28.Name == name_2)) rfl trivial rfl<|?_
   refine dk<|?_
   rcases oi hc1 with ⟨c31,hc1⟩ | ⟨c31,hc1⟩
   ·refine x9 rfl c31<|sr<|l9 (.int .i64 (i_14:Int)) rfl<|l9 (.int .i64 (i_14:Int)) rfl<|dk<|a0a<|?_;obtain rfl:=os hc1;obtain rfl:=os hf;exact a0d ⟨trivial,trivial⟩ rfl (.refl _)
   ·refine y5 rfl (bf c31)<|a0e<|a2c<|a0f<|a0k<|l9 (.int .i64 (i_14:Int)) rfl<|o7 (.int .i64 (w64 ((i_14:Int) + 1))) rfl rfl rfl<|l9 (.int .i64 (w64 ((i_14:Int) + 1))) rfl<|y7<|?_;exact a1t ⟨(i_14 + 1),hc1⟩ (mul hlt22) ⟨[],[0],_,_,rfl,rfl,⟨.refl _,⟨.refl _,⟨.of_eq (congrArg (AV.int _) (a1w hlt22 hl30)),trivial⟩⟩⟩,(.refl _)⟩
 ·rintro ⟨_,rfl⟩
  refine sr<|l9 (.int .i64 (-1)) rfl<|dk<|a0a<|?_;obtain rfl:=os hf;exact a0d ⟨trivial,trivial⟩ rfl (.refl _)

/- spec.l07Code -/
def c139:a0n :=
 (.seq (.reg (tq 2 (.box 4 (.t 0)) (tq 3 (.box 3 (.t 1)) (tm 4 (.c (.int .i64 0)) .done))))
 (.seq (.reg (tq 7 (.load 4 true (.t 2)) (tq 8 (.faddr 0 (.t 3)) (tq 9 (.load 1 false (.t 8)) (tq 10 (.call 235 [(.t 7),(.t 9)]) (tm 5 (.t 10) .done))))))
 (.seq (.seq (.reg (tm 11 (.t 5) (tq 12 (.bin .lss (.t 11) (.c (.int .i64 0))) .done)))
 (.cond (.t 12) (.seq (.reg (tm 4 (.c (.int .i64 11)) .done))
 .ret)
 .skip))
 (.seq (.reg (tq 13 (.faddr 1 (.t 2)) (tq 14 (.load 1 false (.t 13)) (tm 15 (.t 5) (tq 16 (.iaddr 8 (.t 14) (.t 15)) (tq 17 (.faddr 1 (.t 16)) (tq 18 (.load 1 false (.t 17)) (tm 6 (.t 18) .done))))))))
 (.seq (.seq (.reg (tq 19 (.faddr 2 (.t 3)) (tq 20 (.load 1 false (.t 19)) (tq 21 (.len (.t 20)) (tq 22 (.bin .gtr (.t 21) (.c (.int .i64 0))) (tm 23 (.t 22) (tg 24 23 true (.faddr 2 (.t 3)) (tg 25 23 true (.load 1 false (.t 24)) (tg 26 23 true (.iaddr 3 (.t 25) (.c (.int .i64 0))) (tg 27 23 true (.faddr 0 (.t 26)) (tg 28 23 true (.load 1 false (.t 27)) (tg 29 23 true (.mov (.t 6)) (tg 30 23 true (.bin .neq (.t 28) (.t 29)) (tq 31 (.pick (.t 23) (.t 30) (.c (.bool false))) .done))))))))))))))
 (.cut (.cond (.t 31) (.seq (.reg (tm 4 (.c (.int .i64 9)) .done))
 .ret)
 .skip)))
 (.seq (.seq (.reg (tq 32 (.faddr 1 (.t 3)) (tq 33 (.load 1 false (.t 32)) (tq 34 (.bin .leq (.t 33) (.c (.int .i64 5))) (tm 35 (.t 34) (tg 36 35 true (.mov (.t 6)) (tg 37 35 true (.bin .neq (.t 36) (.c (.int .i64 1))) (tg 38 35 true (.mov (.t 37)) (tg 39 38 false (.faddr 2 (.t 3)) (tg 40 38 false (.load 1 false (.t 39)) (tg 41 38 false (.len (.t 40)) (tg 42 38 false (.bin .neq (.t 41) (.c (.int .i64 1))) (tg 43 35 true (.pick (.t 38) (.c (.bool true)) (.t 42)) (tq 44 (.pick (.t 35) (.t 43) (.c (.bool false))) .done))))))))))))))
 (.cut (.cond (.t 44) (.seq (.reg (tm 4 (.c (.int .i64 9)) .done))
 .ret)
 .skip)))
 (.seq (.reg (tm 4 (.c (.int .i64 0)) .done))
 .ret)))))))
theorem e6w:a1c Tryz.prog Tryz.f139 = some (c139.erase,[.mov (.t 4)],45):=by kernel_rfl
def a9p (t_1:a0w) (m_2:a2w):Option Int :=
    (a6v t_1 m_2.Column).bind fun r_3 =>
    if (decide (r_3 < 0)) then
    some 11
    else
    (idx t_1.Columns r_3).bind fun x_6 =>
    ((if (decide ((m_2.Value.length:Int) > 0)) then
    (idx m_2.Value 0).bind fun x_16 =>
    some (x_16.Kind != x_6.Kind)
    else
    some false:Option Bool)).bind fun s31_12 =>
    if s31_12 then
    some 9
    else
    ((some ():Option Unit)).bind fun _ =>
    if (bif (decide (m_2.Func ≤ 5)) then (bif (x_6.Kind != 1) then true else ((m_2.Value.length:Int) != 1)) else false) then
    some 9
    else
    some 0
theorem b6k (t_1:a0w) (m_2:a2w) (r:Int) (hf:a9p t_1 m_2 = some r):y8 Tryz.prog 139 .flat [(a1b t_1),(a0c m_2)] (.int .i64 r):=by
 refine y8.of_awp mixed Tryz.func139 e6w nle ?_;rw [a0h];unfold a9p at hf;unfold c139;refine (show awp Tryz.prog false 0 _ (ofL [(0,(a1b t_1)),(1,(a0c m_2))]) [] _ from ?_);refine sr<|x8 (a1o (j:=0) (c:=(.agg [(.str t_1.Name),(.lst 8 (t_1.Columns.map o5)),(.lst 1 (t_1.Unique.map encI)),(.bool t_1.Root)])) rfl trivial rfl rfl)<|x8 (a1o (j:=1) (c:=(.agg [(.str m_2.Column),(.int .i64 m_2.Func),(.lst 3 (m_2.Value.map l7))])) rfl trivial rfl rfl)<|l9 (.int .i64 0) rfl<|dk<|sr<|?_
 obtain ⟨r_3,er4,hf⟩:=ob hf
 refine o7 (.agg [(.str t_1.Name),(.lst 8 (t_1.Columns.map o5)),(.lst 1 (t_1.Unique.map encI)),(.bool t_1.Root)]) rfl nle rfl<|o7 (.ptr 1 0 0) rfl trivial rfl<|o7 (.str m_2.Column) rfl nle rfl<|x8 (a0g (b4r _ _ _ er4) rfl (.refl _) rfl)<|l9 (.int .i64 r_3) rfl<|dk<|o6<|sr<|l9 (.int .i64 r_3) rfl<|o7 (.bool (decide (r_3 < 0))) rfl rfl rfl<|dk<|?_
 rcases oi hf with ⟨c5,hf⟩ | ⟨c5,hf⟩
 ·refine x9 rfl c5<|sr<|l9 (.int .i64 11) rfl<|dk<|a0a<|?_;obtain rfl:=os hf;exact a0d ⟨trivial,trivial⟩ rfl (.refl _)
 ·refine y5 rfl (bf c5)<|a0e<|a0f<|sr<|?_
  obtain ⟨x_6,ex7,hf⟩:=ob hf
  refine o7 (.ptr 0 0 1) rfl trivial rfl<|o7 (.lst 8 (t_1.Columns.map o5)) rfl nle rfl<|l9 (.int .i64 r_3) rfl<|x8 (a3l (enc:=o5) rfl rfl (a8m ex7) (a8n ex7))<|o7 (.iptr (o5 x_6) 1) rfl trivial rfl<|o7 (.int .i64 x_6.Kind) rfl nle rfl<|l9 (.int .i64 x_6.Kind) rfl<|dk<|o6<|o6<|?_
  obtain ⟨s31_12,hb1,hf⟩:=ob hf
  refine a1k ([(3,(.ptr 0 0 0)),(6,(.int .i64 x_6.Kind)),(31,(.bool s31_12))],[.box 3 (.agg [(.str m_2.Column),(.int .i64 m_2.Func),(.lst 3 (m_2.Value.map l7))])]) ?_ ?_
  ·refine a0k<|o7 (.ptr 1 0 2) rfl trivial rfl<|o7 (.lst 3 (m_2.Value.map l7)) rfl nle rfl<|a1e (a1p (enc:=l7) rfl) fun hl14 => o7 (.bool (decide ((m_2.Value.length:Int) > 0))) rfl rfl rfl<|l9 (.bool (decide ((m_2.Value.length:Int) > 0))) rfl<|?_
   rcases oi hb1 with ⟨c15,hb1⟩ | ⟨c15,hb1⟩
   ·refine a0u (s:=23) (b:=true) rfl c15<|s_on rfl<|o7 (.ptr 1 0 2) rfl trivial rfl<|s_on rfl<|o7 (.lst 3 (m_2.Value.map l7)) rfl nle rfl<|s_on rfl<|?_
    obtain ⟨x_16,ex17,hb1⟩:=ob hb1
    refine x8 (a3l (enc:=l7) rfl rfl (a8m ex17) (a8n ex17))<|s_on rfl<|o7 (.iptr (l7 x_16) 0) rfl trivial rfl<|s_on rfl<|o7 (.int .i64 x_16.Kind) rfl nle rfl<|s_on rfl<|l9 (.int .i64 x_6.Kind) rfl<|s_on rfl<|o7 (.bool (x_16.Kind != x_6.Kind)) rfl rfl rfl<|o7 (.bool (x_16.Kind != x_6.Kind)) rfl trivial rfl<|y7<|?_;obtain rfl:=os hb1;exact ⟨[],[1],_,_,rfl,rfl,⟨.refl _,⟨.refl _,⟨.refl _,trivial⟩⟩⟩,(.refl _)⟩
   ·refine a0u (s:=23) (b:=false) rfl (bf c15)<|o9 rfl rfl<|o9 rfl rfl<|o9 rfl rfl<|o9 rfl rfl<|o9 rfl rfl<|o9 rfl rfl<|o9 rfl rfl<|o7 (.bool false) rfl trivial rfl<|y7<|?_;obtain rfl:=os hb1;exact ⟨[],[1],_,_,rfl,rfl,⟨.refl _,⟨.refl _,⟨.refl _,trivial⟩⟩⟩,(.refl _)⟩
  ·rcases oi hf with ⟨c18,hf⟩ | ⟨c18,hf⟩
   ·refine x9 rfl c18<|sr<|l9 (.int .i64 9) rfl<|dk<|a0a<|?_;obtain rfl:=os hf;exact a0d ⟨trivial,trivial⟩ rfl (.refl _)
   ·refine y5 rfl (bf c18)<|a0e<|a0f<|o6<|o6<|?_
    obtain ⟨p20,hb1,hf⟩:=ob hf
    refine a1k ([(44,(.bool (bif (decide (m_2.Func ≤ 5)) then (bif (x_6.Kind != 1) then true else ((m_2.Value.length:Int) != 1)) else false)))],[]) ?_ ?_
    ·refine a0k<|o7 (.ptr 0 0 1) rfl trivial rfl<|o7 (.int .i64 m_2.Func) rfl nle rfl<|o7 (.bool (decide (m_2.Func ≤ 5))) rfl rfl rfl<|l9 (.bool (decide (m_2.Func ≤ 5))) rfl<|?_;refine s_g (v:=(decide (m_2.Func ≤ 5))) (.int .i64 x_6.Kind) rfl (fun hv => by (try simp only [a0i hv]);exact ⟨rfl,trivial,rfl⟩) ?_;refine s_g (v:=(decide (m_2.Func ≤ 5))) (.bool (x_6.Kind != 1)) rfl (fun hv => by (try simp only [a0i hv]);exact ⟨rfl,rfl,rfl⟩) ?_;refine s_g (v:=(decide (m_2.Func ≤ 5))) (.bool (x_6.Kind != 1)) rfl (fun hv => by (try simp only [a0i hv]);exact ⟨rfl,trivial,rfl⟩) ?_;refine c1s (v1:=(decide (m_2.Func ≤ 5))) (b1:=true) (v2:=(x_6.Kind != 1)) (.ptr 0 0 2) rfl (fun hv hw => by (try simp only [a0i hv,a0i hw]);exact ⟨rfl,trivial,rfl⟩) ?_
     refine c1s (v1:=(decide (m_2.Func ≤ 5))) (b1:=true) (v2:=(x_6.Kind != 1)) (.lst 3 (m_2.Value.map l7)) rfl (fun hv hw => by (try simp only [a0i hv,a0i hw]);exact ⟨rfl,nle,rfl⟩) ?_;refine c1s (v1:=(decide (m_2.Func ≤ 5))) (b1:=true) (v2:=(x_6.Kind != 1)) (.int .i64 (m_2.Value.length:Int)) rfl (fun hv hw => by (try simp only [a0i hv,a0i hw]);exact ⟨rfl,trivial,lenV _ _⟩) ?_;refine c1s (v1:=(decide (m_2.Func ≤ 5))) (b1:=true) (v2:=(x_6.Kind != 1)) (.bool ((m_2.Value.length:Int) != 1)) rfl (fun hv hw => by (try simp only [a0i hv,a0i hw]);exact ⟨rfl,rfl,rfl⟩) ?_;refine d9i (v1:=(decide (m_2.Func ≤ 5))) (b1:=true) (v2:=(x_6.Kind != 1)) (x:=true) (y:=((m_2.Value.length:Int) != 1)) rfl (fun hv => by (try simp only [a0i hv]);rfl) (fun hv hw => by (try simp only [a0i hv,a0i hw]);rfl) (fun hv hw => by (try simp only [a0i hv,a0i hw]);rfl) ?_
     refine a6l (x:=(bif (x_6.Kind != 1) then true else ((m_2.Value.length:Int) != 1))) (y:=false) rfl (fun hv => by (try simp only [a0i hv]);rfl) (fun hv => by (try simp only [a0i hv]);rfl) ?_;refine y7 ?_;obtain rfl:=os hb1;exact ⟨[],[],_,_,rfl,rfl,⟨.refl _,trivial⟩,(.refl _)⟩
    ·rcases oi hf with ⟨c22,hf⟩ | ⟨c22,hf⟩
     ·refine x9 rfl c22<|sr<|l9 (.int .i64 9) rfl<|dk<|a0a<|?_;obtain rfl:=os hf;exact a0d ⟨trivial,trivial⟩ rfl (.refl _)
     ·refine y5 rfl (bf c22)<|a0e<|a0f<|sr<|l9 (.int .i64 0) rfl<|dk<|a0a<|?_;obtain rfl:=os hf;exact a0d ⟨trivial,trivial⟩ rfl (.refl _)

/- spec.l07Codes -/
def c130:a0n :=
 (.seq (.reg (tq 2 (.box 4 (.t 0)) (tm 4 (.c (.int .i64 0)) .done)))
 (.seq (.seq (.reg (tm 5 (.c (.int .i64 0)) .done))
 (.block 0 (.loop (.seq (.seq (.reg (tm 7 (.t 5) (tm 8 (.t 1) (tq 9 (.len (.t 8)) (tq 10 (.bin .lss (.t 7) (.t 9)) .done)))))
 (.cond (.t 10) .skip
 (.exit 0)))
 (.seq (.block 1 (.seq (.reg (tq 13 (.load 4 true (.t 2)) (tm 14 (.t 1) (tm 15 (.t 5) (tq 16 (.iaddr 3 (.t 14) (.t 15)) (tq 17 (.load 3 true (.t 16)) (.l ⟨(some 18),none,.call 139 [(.t 13),(.t 17)]⟩ []
 (tm 6 (.t 18) .done) .non)))))))
 (.seq (.reg (tm 19 (.t 6) (tq 20 (.bin .neq (.t 19) (.c (.int .i64 0))) .done)))
 (.cond (.t 20) (.seq (.reg (tm 21 (.t 6) (tm 4 (.t 21) .done)))
 .ret)
 .skip))))
 (.reg (tm 11 (.t 5) (tq 12 (.bin .add (.t 11) (.c (.int .i64 1))) (tm 5 (.t 12) .done)))))))))
 (.cut (.seq (.reg (tm 4 (.c (.int .i64 0)) .done))
 .ret))))
theorem e6x:a1c Tryz.prog Tryz.f130 = some (c130.erase,[.mov (.t 4)],22):=by kernel_rfl
def a4o (t_1:a0w):List a2w → Option (Fl Int Unit)
  | [] =>
    some (.go ())
  | x_34 :: xs =>
    (a9p t_1 x_34).bind fun r_37 =>
    if (r_37 != 0) then
    some (.ret r_37)
    else
    a4o t_1 xs 

def b0d (t_1:a0w) (list_2:(List a2w)):Option Int :=
    (a4o t_1 list_2 ).bind fun q => (match q with
    | .ret r => some r
    | .go _ =>
    some 0)
theorem c2a (t_1:a0w) (list_2:(List a2w)) (r:Int) (hf:b0d t_1 list_2 = some r):y8 Tryz.prog 130 .flat [(a1b t_1),(.lst 3 (list_2.map a0c))] (.int .i64 r):=by
 refine y8.of_awp mixed Tryz.func130 e6x nle ?_;rw [a0h];unfold b0d at hf;unfold c130;refine (show awp Tryz.prog false 0 _ (ofL [(0,(a1b t_1)),(1,(.lst 3 (list_2.map a0c)))]) [] _ from ?_);refine sr<|x8 (a1o (j:=0) (c:=(.agg [(.str t_1.Name),(.lst 8 (t_1.Columns.map o5)),(.lst 1 (t_1.Unique.map encI)),(.bool t_1.Root)])) rfl trivial rfl rfl)<|l9 (.int .i64 0) rfl<|dk<|o6<|sr<|l9 (.int .i64 0) rfl<|dk<|?_
 obtain ⟨p27,hb1,hf⟩:=ob hf
 refine a2i (X:={q:Unit // p27 = .go q}) (fun q => ([],[])) ?_ ?_
 ·refine a1m (X:={q:Nat // a4o t_1 (list_2.drop q)  = some p27}) (fun q => ([(1,(.lst 3 (list_2.map a0c))),(2,(.ptr 0 0 0)),(5,(.int .i64 (q.1:Int)))],[.box 4 (.agg [(.str t_1.Name),(.lst 8 (t_1.Columns.map o5)),(.lst 1 (t_1.Unique.map encI)),(.bool t_1.Root)])])) (fun q => list_2.length - q.1) ⟨0,hb1⟩ ⟨[],[0],_,_,rfl,rfl,⟨.refl _,⟨.refl _,⟨.refl _,trivial⟩⟩⟩,(.refl _)⟩ ?_
  rintro ⟨i_18,hc1⟩
  have hc1:a4o t_1 (list_2.drop i_18)  = some p27:=hc1
  refine (show awp Tryz.prog false 0 _ (ofL [(1,(.lst 3 (list_2.map a0c))),(2,(.ptr 0 0 0)),(5,(.int .i64 (i_18:Int)))]) [.box 4 (.agg [(.str t_1.Name),(.lst 8 (t_1.Columns.map o5)),(.lst 1 (t_1.Unique.map encI)),(.bool t_1.Root)])] _ from ?_)
  rcases a5p list_2 i_18 with ⟨hie30,hd33⟩ | ⟨hlt28,x_34,hx29,hd33⟩
  ·rw [hd33,a4o.eq_1] at hc1
   have hq32:=dlf hie30
   refine o6<|sr<|l9 (.int .i64 (i_18:Int)) rfl<|l9 (.lst 3 (list_2.map a0c)) rfl<|a1e (a1p (enc:=a0c) rfl) fun hl35 => o7 (.bool (decide ((i_18:Int) < (list_2.length:Int)))) rfl rfl rfl<|dk<|y5 rfl hq32<|a2u<|a2t<|a1x<|a2s<|?_;obtain rfl:=os hc1;exact a3h ⟨_,rfl⟩ ⟨[],[],_,_,rfl,rfl,trivial,(.refl _)⟩
  ·rw [hd33,a4o.eq_2] at hc1
   have hq32:=dlt hlt28
   refine o6<|sr<|l9 (.int .i64 (i_18:Int)) rfl<|l9 (.lst 3 (list_2.map a0c)) rfl<|a1e (a1p (enc:=a0c) rfl) fun hl36 => o7 (.bool (decide ((i_18:Int) < (list_2.length:Int)))) rfl rfl rfl<|dk<|x9 rfl hq32<|a0e<|a0f<|o6<|a3c<|sr<|?_
   obtain ⟨r_37,er38,hc1⟩:=ob hc1
   refine o7 (.agg [(.str t_1.Name),(.lst 8 (t_1.Columns.map o5)),(.lst 1 (t_1.Unique.map encI)),(.bool t_1.Root)]) rfl nle rfl<|l9 (.lst 3 (list_2.map a0c)) rfl<|l9 (.int .i64 (i_18:Int)) rfl<|x8 (a1r (enc:=a0c) rfl rfl hx29)<|o7 (a0c x_34) rfl nle rfl<|a2j (a0g (b6k _ _ _ er38) rfl (.refl _) rfl) a6a trivial<|l9 (.int .i64 r_37) rfl<|dk<|sr<|l9 (.int .i64 r_37) rfl<|o7 (.bool (r_37 != 0)) rfl rfl rfl<|dk<|?_
   rcases oi hc1 with ⟨c39,hc1⟩ | ⟨c39,hc1⟩
   ·refine x9 rfl c39<|sr<|l9 (.int .i64 r_37) rfl<|l9 (.int .i64 r_37) rfl<|dk<|a0a<|?_;obtain rfl:=os hc1;obtain rfl:=os hf;exact a0d ⟨trivial,trivial⟩ rfl (.refl _)
   ·refine y5 rfl (bf c39)<|a0e<|a2c<|a0f<|a0k<|l9 (.int .i64 (i_18:Int)) rfl<|o7 (.int .i64 (w64 ((i_18:Int) + 1))) rfl rfl rfl<|l9 (.int .i64 (w64 ((i_18:Int) + 1))) rfl<|y7<|?_;exact a1t ⟨(i_18 + 1),hc1⟩ (mul hlt28) ⟨[],[0],_,_,rfl,rfl,⟨.refl _,⟨.refl _,⟨.of_eq (congrArg (AV.int _) (a1w hlt28 hl36)),trivial⟩⟩⟩,(.refl _)⟩
 ·rintro ⟨_,rfl⟩
  refine sr<|l9 (.int .i64 0) rfl<|dk<|a0a<|?_;obtain rfl:=os hf;exact a0d ⟨trivial,trivial⟩ rfl (.refl _)

/- spec.l05OwnRow -/
def e6y:a0n :=
 (.seq (.reg (tq 1 (.box 2 (.t 0)) (tq 2 (.box 2 (.c (.agg [(.int .i64 0),.nil]))) .done)))
 (.seq (.reg (tq 5 (.faddr 0 (.t 1)) (tq 6 (.load 1 false (.t 5)) (tq 7 (.bslice 1 []) (tq 8 (.build [(.int .i64 0),.nil] [(0,1,(.t 6)),(1,1,(.t 7))]) (tq 3 (.box 2 (.c (.agg [(.int .i64 0),.nil]))) (.q ⟨none,none,.store 2 (.t 3) (.t 8)⟩
 .done)))))))
 (.seq (.seq (.reg (tm 4 (.c (.int .i64 0)) .done))
 (.block 0 (.loop (.seq (.seq (.reg (tm 9 (.t 4) (tq 10 (.faddr 1 (.t 1)) (tq 11 (.load 1 false (.t 10)) (tq 12 (.len (.t 11)) (tq 13 (.bin .lss (.t 9) (.t 12)) .done))))))
 (.cond (.t 13) .skip
 (.exit 0)))
 (.seq (.block 1 (.reg (tq 16 (.faddr 1 (.t 3)) (tq 17 (.load 1 false (.t 16)) (tq 19 (.faddr 1 (.t 1)) (tq 20 (.load 1 false (.t 19)) (tm 21 (.t 4) (tq 22 (.iaddr 1 (.t 20) (.t 21)) (tq 23 (.load 1 false (.t 22)) (.l ⟨(some 18),none,.bslice 3 []⟩ [⟨(some 23),none,.load 1 false (.t 22)⟩,⟨(some 22),none,.iaddr 1 (.t 20) (.t 21)⟩,⟨(some 20),none,.load 1 false (.t 19)⟩,⟨(some 19),none,.faddr 1 (.t 1)⟩,⟨(some 17),none,.load 1 false (.t 16)⟩,⟨(some 16),none,.faddr 1 (.t 3)⟩]
 (.l ⟨(some 24),none,.append 3 32 (.t 18) (.t 23)⟩ [⟨(some 17),none,.load 1 false (.t 16)⟩,⟨(some 16),none,.faddr 1 (.t 3)⟩]
 (.l ⟨(some 25),none,.bslice 1 [(.t 24)]⟩ [⟨(some 17),none,.load 1 false (.t 16)⟩,⟨(some 16),none,.faddr 1 (.t 3)⟩]
 (.l ⟨(some 26),none,.append 1 24 (.t 17) (.t 25)⟩ []
 (tq 27 (.faddr 1 (.t 3)) (.l ⟨none,none,.store 1 (.t 27) (.t 26)⟩ []
 .done .non)) .non) .non) .non) .non))))))))))
 (.reg (tm 14 (.t 4) (tq 15 (.bin .add (.t 14) (.c (.int .i64 1))) (tm 4 (.t 15) .done)))))))))
 (.cut (.seq (.reg (tq 28 (.load 2 true (.t 3)) (.q ⟨none,none,.store 2 (.t 2) (.t 28)⟩
 .done)))
 .ret)))))
theorem e6z:a1c Tryz.prog Tryz.f257 = some (e6y.erase,[.load 2 true (.t 2)],29):=by kernel_rfl
def a4e :List (List o8) → (List (List o8)) → Option (List (List o8))
  | [],x_17 =>
    some x_17
  | x_33 :: xs,x_17 =>
    if ([] ++ x_33).length ≤ 2 ^ 30 then
    if (x_17 ++ [[] ++ x_33]).length ≤ 2 ^ 30 then
    a4e xs  (x_17 ++ [[] ++ x_33])
    else none
    else none

def a9a (r_1:a4p):Option a4p :=
    (a4e r_1.Cells []).bind fun x_25 =>
    some (⟨r_1.Id,x_25⟩:a4p)
theorem c0p (r_1:a4p) (r:a4p) (hf:a9a r_1 = some r):y8 Tryz.prog 257 .fresh [(a3g r_1)] (a3g r):=by
 refine y8.of_awp mixed Tryz.func257 e6z nle ?_;rw [a0h];unfold a9a at hf;unfold e6y;refine (show awp Tryz.prog true 0 _ (ofL [(0,(a3g r_1))]) [] _ from ?_);refine sr<|x8 (a1o (j:=0) (c:=(.agg [(.int .i64 r_1.Id),(.lst 1 (r_1.Cells.map (a1n 3 l7)))])) rfl trivial rfl rfl)<|x8 (a1o (j:=1) (c:=(.agg [(.int .i64 0),.nil])) rfl trivial rfl rfl)<|dk<|sr<|o7 (.ptr 0 0 0) rfl trivial rfl<|o7 (.int .i64 r_1.Id) rfl nle rfl<|?_;refine x8 (a1z (j:=2) (as':=[]) rfl (fun _ => by decide) trivial (.refl _) rfl rfl rfl) ?_;refine o7 (.agg [(.int .i64 r_1.Id),(.own 2 0 0)]) rfl ⟨⟨rfl,nle,trivial⟩,⟨⟨rfl,nle,trivial⟩,trivial⟩⟩ rfl ?_
 refine x8 (a1o (j:=3) (c:=(.agg [(.int .i64 0),.nil])) rfl trivial rfl rfl)<|a3w (a0v (v:=(.agg [(.int .i64 r_1.Id),(.own 2 0 0)])) (y':=(.agg [(.int .i64 r_1.Id),(.own 2 0 0)])) rfl rfl rfl trivial ⟨rfl,nle⟩ ⟨⟨rfl,trivial⟩,⟨⟨rfl,trivial⟩,trivial⟩⟩ rfl)<|dk<|o6<|sr<|l9 (.int .i64 0) rfl<|dk<|?_
 obtain ⟨x_25,hb1,hf⟩:=ob hf
 refine a1k ([(2,(.ptr 0 0 0)),(3,(.ptr 1 0 0))],[.box 2 (.agg [(.int .i64 0),.nil]),.box 2 (.agg [(.int .i64 r_1.Id),(.own 2 0 x_25.length)]),.row 1 (x_25.map (a1n 3 l7))]) ?_ ?_
 ·refine a1m (X:={q:(Nat × (List (List o8))) // a4e (r_1.Cells.drop q.1) q.2 = some x_25}) (fun q => ([(1,(.ptr 0 0 0)),(2,(.ptr 1 0 0)),(3,(.ptr 2 0 0)),(4,(.int .i64 (q.1.1:Int)))],[.box 2 (.agg [(.int .i64 r_1.Id),(.lst 1 (r_1.Cells.map (a1n 3 l7)))]),.box 2 (.agg [(.int .i64 0),.nil]),.box 2 (.agg [(.int .i64 r_1.Id),(.own 3 0 q.1.2.length)]),.row 1 (q.1.2.map (a1n 3 l7))])) (fun q => r_1.Cells.length - q.1.1) ⟨(0,[]),hb1⟩ ⟨[],[0,1,3,2],_,_,rfl,rfl,⟨.refl _,⟨.refl _,⟨.refl _,⟨.refl _,trivial⟩⟩⟩⟩,(.cons (.refl _) (.cons (.refl _) (.cons (.box (.agg (.cons (.refl _) (.cons (.of_eq (congrArg (AV.own _ 0) (by simp))) .nil)))) (.cons (.refl _) .nil))))⟩ ?_
  rintro ⟨⟨i_16,x_17⟩,hc1⟩
  have hc1:a4e (r_1.Cells.drop i_16) x_17 = some x_25:=hc1
  refine (show awp Tryz.prog true 0 _ (ofL [(1,(.ptr 0 0 0)),(2,(.ptr 1 0 0)),(3,(.ptr 2 0 0)),(4,(.int .i64 (i_16:Int)))]) [.box 2 (.agg [(.int .i64 r_1.Id),(.lst 1 (r_1.Cells.map (a1n 3 l7)))]),.box 2 (.agg [(.int .i64 0),.nil]),.box 2 (.agg [(.int .i64 r_1.Id),(.own 3 0 x_17.length)]),.row 1 (x_17.map (a1n 3 l7))] _ from ?_)
  rcases a5p r_1.Cells i_16 with ⟨hie29,hd32⟩ | ⟨hlt27,x_33,hx28,hd32⟩
  ·rw [hd32,a4e.eq_1] at hc1
   have hq31:=dlf hie29
   refine o6<|sr<|l9 (.int .i64 (i_16:Int)) rfl<|o7 (.ptr 0 0 1) rfl trivial rfl<|o7 (.lst 1 (r_1.Cells.map (a1n 3 l7))) rfl nle rfl<|a1e (a1p (enc:=(a1n 3 l7)) rfl) fun hl34 => o7 (.bool (decide ((i_16:Int) < (r_1.Cells.length:Int)))) rfl rfl rfl<|dk<|y5 rfl hq31<|a2u<|a2t<|a1x<|a2s<|?_;obtain rfl:=os hc1;exact ⟨[],[1,2,3],_,_,rfl,rfl,⟨.refl _,⟨.refl _,trivial⟩⟩,(.refl _)⟩
  ·rw [hd32,a4e.eq_2] at hc1
   have hq31:=dlt hlt27
   refine o6<|sr<|l9 (.int .i64 (i_16:Int)) rfl<|o7 (.ptr 0 0 1) rfl trivial rfl<|o7 (.lst 1 (r_1.Cells.map (a1n 3 l7))) rfl nle rfl<|a1e (a1p (enc:=(a1n 3 l7)) rfl) fun hl35 => o7 (.bool (decide ((i_16:Int) < (r_1.Cells.length:Int)))) rfl rfl rfl<|dk<|x9 rfl hq31<|a0e<|a0f<|o6<|a3c<|a0k<|o7 (.ptr 2 0 1) rfl trivial rfl<|o7 (.own 3 0 x_17.length) rfl nle rfl<|o7 (.ptr 0 0 1) rfl trivial rfl<|o7 (.lst 1 (r_1.Cells.map (a1n 3 l7))) rfl nle rfl<|l9 (.int .i64 (i_16:Int)) rfl<|x8 (a1r (enc:=(a1n 3 l7)) rfl rfl hx28)<|o7 (.lst 3 (x_33.map l7)) rfl ⟨rfl,rfl⟩ rfl<|?_
   refine a2j (a1z (j:=4) (as':=[]) rfl (fun _ => by decide) trivial (.refl _) rfl rfl rfl) (.inr ⟨⟨⟨rfl,rfl⟩,rfl⟩,⟨(d4o (enc:=(a1n 3 l7)) rfl rfl hx28),⟨⟨nle,rfl⟩,⟨⟨trivial,rfl⟩,⟨⟨nle,rfl⟩,⟨⟨trivial,rfl⟩,trivial⟩⟩⟩⟩⟩⟩) trivial ?_
   obtain ⟨g36,hc1⟩:=og hc1
   refine a2j (a5n (j:=5) (L:=(([] ++ x_33).map l7)) (len:=([] ++ x_33).length) rfl false rfl rfl (fun _ => flm (fun _ => rfl) _) (fun _ _ _ => flm (fun _ => rfl) _) (by decide) ((by simp)) (by simp <;> omega) g36 rfl rfl) (.inr ⟨⟨nle,rfl⟩,⟨⟨trivial,rfl⟩,trivial⟩⟩) trivial ?_
   refine a2j (a1z (j:=6) (as':=[(.lst 3 (([] ++ x_33).map l7))]) rfl (fun _ => by decide) ⟨rfl,trivial⟩ (.cons (.of_eq (congrArg (AV.lst _) (tk (enc:=l7) ([] ++ x_33)))) .nil) rfl rfl rfl) (.inr ⟨⟨nle,rfl⟩,⟨⟨trivial,rfl⟩,trivial⟩⟩) trivial ?_
   obtain ⟨g37,hc1⟩:=og hc1
   refine a2j (a5n (j:=7) (L:=((x_17 ++ [[] ++ x_33]).map (a1n 3 l7))) (len:=(x_17 ++ [[] ++ x_33]).length) rfl true rfl rfl (fun h => Bool.noConfusion h) (fun _ _ h => (c0j (show AV.own _ _ _ = AV.lst _ _ from h)).elim) (by decide) (c4b (enc:=(a1n 3 l7)) x_17 [[] ++ x_33] _ (by rfl)) (by simp <;> omega) g37 rfl rfl) trivial trivial ?_
   refine o7 (.ptr 2 0 1) rfl trivial rfl<|b4i (a0v (v:=(.own 7 0 ((x_17 ++ [[] ++ x_33]).length))) (y':=(.agg [(.int .i64 r_1.Id),(.own 7 0 ((x_17 ++ [[] ++ x_33]).length))])) rfl rfl rfl trivial ⟨rfl,nle⟩ ⟨⟨rfl,trivial⟩,trivial⟩ rfl) trivial trivial<|y7<|a2c<|a0f<|a0k<|l9 (.int .i64 (i_16:Int)) rfl<|o7 (.int .i64 (w64 ((i_16:Int) + 1))) rfl rfl rfl<|l9 (.int .i64 (w64 ((i_16:Int) + 1))) rfl<|y7<|?_;exact a1t ⟨((i_16 + 1),x_17 ++ [[] ++ x_33]),hc1⟩ (mul hlt27) ⟨[],[0,1,2,7],_,_,rfl,rfl,⟨.refl _,⟨.refl _,⟨.refl _,⟨.of_eq (congrArg (AV.int _) (a1w hlt27 hl35)),trivial⟩⟩⟩⟩,(.refl _)⟩
 ·refine sr<|o7 (.agg [(.int .i64 r_1.Id),(.own 2 0 x_25.length)]) rfl nle rfl<|a3w (a0v (v:=(.agg [(.int .i64 r_1.Id),(.own 2 0 x_25.length)])) (y':=(.agg [(.int .i64 r_1.Id),(.own 2 0 x_25.length)])) rfl rfl rfl trivial ⟨rfl,nle⟩ ⟨⟨rfl,trivial⟩,⟨⟨rfl,trivial⟩,trivial⟩⟩ rfl)<|dk<|a0a<|?_;obtain rfl:=os hf;exact a4r ⟨nle,trivial⟩ rfl (by decide) (.agg (.cons (.refl _) (.cons (.of_eq (congrArg (AV.lst _) (tk (enc:=(a1n 3 l7)) x_25))) .nil)))

/- spec.l03Join -/
def e7a:a0n :=
 (.seq (.reg (tm 4 (.c .nil) .done))
 (.seq (.reg (tq 7 (.bslice 3 []) (tm 8 (.t 0) (tq 9 (.append 3 32 (.t 7) (.t 8)) (tm 5 (.t 9) .done)))))
 (.seq (.seq (.reg (tm 6 (.c (.int .i64 0)) .done))
 (.block 0 (.loop (.seq (.seq (.reg (tm 10 (.t 6) (tm 11 (.t 1) (tq 12 (.len (.t 11)) (tq 13 (.bin .lss (.t 10) (.t 12)) .done)))))
 (.cond (.t 13) .skip
 (.exit 0)))
 (.seq (.block 1 (.reg (tm 16 (.t 5) (tm 17 (.t 1) (tm 18 (.t 6) (tq 19 (.iaddr 3 (.t 17) (.t 18)) (tq 20 (.load 3 true (.t 19)) (tq 21 (.call 284 [(.t 16),(.t 20)]) (tm 5 (.t 21) .done)))))))))
 (.reg (tm 14 (.t 6) (tq 15 (.bin .add (.t 14) (.c (.int .i64 1))) (tm 6 (.t 15) .done)))))))))
 (.cut (.seq (.reg (tm 22 (.t 5) (tm 4 (.t 22) .done)))
 .ret)))))
theorem e7b:a1c Tryz.prog Tryz.f357 = some (e7a.erase,[.mov (.t 4)],23):=by kernel_rfl
def a5g :List o8 → (List o8) → Option (List o8)
  | [],out_19 =>
    some out_19
  | x_35 :: xs,out_19 =>
    (a6h out_19 x_35).bind fun r_38 =>
    a5g xs  r_38

def b3d (a_1:(List o8)) (b_2:(List o8)):Option (List o8) :=
    if ([] ++ a_1).length ≤ 2 ^ 30 then
    (a5g b_2 ([] ++ a_1)).bind fun out_27 =>
    some out_27
    else none
theorem c4l (a_1:(List o8)) (b_2:(List o8)) (r:(List o8)) (hf:b3d a_1 b_2 = some r):y8 Tryz.prog 357 .fresh [(.lst 3 (a_1.map l7)),(.lst 3 (b_2.map l7))] (.lst 3 (r.map l7)):=by
 refine y8.of_awp mixed Tryz.func357 e7b nle ?_;rw [a0h];unfold b3d at hf;unfold e7a;refine (show awp Tryz.prog true 0 _ (ofL [(0,(.lst 3 (a_1.map l7))),(1,(.lst 3 (b_2.map l7)))]) [] _ from ?_);refine sr<|l9 .nil rfl<|dk<|sr<|?_
 obtain ⟨g3,hf⟩:=og hf
 refine x8 (a1z (j:=0) (as':=[]) rfl (fun _ => by decide) trivial (.refl _) rfl rfl rfl) ?_;refine l9 (.lst 3 (a_1.map l7)) rfl ?_
 refine x8 (a5n (j:=1) (L:=(([] ++ a_1).map l7)) (len:=([] ++ a_1).length) rfl false rfl rfl (fun _ => flm (fun _ => rfl) _) (fun _ _ _ => flm (fun _ => rfl) _) (by decide) ((by simp)) (by simp <;> omega) g3 rfl rfl) ?_
 refine l9 (.own 1 0 (([] ++ a_1).length)) rfl<|dk<|o6<|sr<|l9 (.int .i64 0) rfl<|dk<|?_
 obtain ⟨out_27,hb1,hf⟩:=ob hf
 refine a1k ([(5,(.own 0 0 out_27.length))],[.row 3 (out_27.map l7)]) ?_ ?_
 ·refine a1m (X:={q:(Nat × (List o8)) // a5g (b_2.drop q.1) q.2 = some out_27}) (fun q => ([(1,(.lst 3 (b_2.map l7))),(5,(.own 0 0 q.1.2.length)),(6,(.int .i64 (q.1.1:Int)))],[.row 3 (q.1.2.map l7)])) (fun q => b_2.length - q.1.1) ⟨(0,[] ++ a_1),hb1⟩ ⟨[],[1],_,_,rfl,rfl,⟨.refl _,⟨.refl _,⟨.refl _,trivial⟩⟩⟩,(.refl _)⟩ ?_
  rintro ⟨⟨i_18,out_19⟩,hc1⟩
  have hc1:a5g (b_2.drop i_18) out_19 = some out_27:=hc1
  refine (show awp Tryz.prog true 0 _ (ofL [(1,(.lst 3 (b_2.map l7))),(5,(.own 0 0 out_19.length)),(6,(.int .i64 (i_18:Int)))]) [.row 3 (out_19.map l7)] _ from ?_)
  rcases a5p b_2 i_18 with ⟨hie31,hd34⟩ | ⟨hlt29,x_35,hx30,hd34⟩
  ·rw [hd34,a5g.eq_1] at hc1
   have hq33:=dlf hie31
   refine o6<|sr<|l9 (.int .i64 (i_18:Int)) rfl<|l9 (.lst 3 (b_2.map l7)) rfl<|a1e (a1p (enc:=l7) rfl) fun hl36 => o7 (.bool (decide ((i_18:Int) < (b_2.length:Int)))) rfl rfl rfl<|dk<|y5 rfl hq33<|a2u<|a2t<|a1x<|a2s<|?_;obtain rfl:=os hc1;exact ⟨[],[0],_,_,rfl,rfl,⟨.refl _,trivial⟩,(.refl _)⟩
  ·rw [hd34,a5g.eq_2] at hc1
   have hq33:=dlt hlt29
   refine o6<|sr<|l9 (.int .i64 (i_18:Int)) rfl<|l9 (.lst 3 (b_2.map l7)) rfl<|a1e (a1p (enc:=l7) rfl) fun hl37 => o7 (.bool (decide ((i_18:Int) < (b_2.length:Int)))) rfl rfl rfl<|dk<|x9 rfl hq33<|a0e<|a0f<|o6<|a3c<|a0k<|?_
   obtain ⟨r_38,er39,hc1⟩:=ob hc1
   refine l9 (.own 0 0 out_19.length) rfl<|l9 (.lst 3 (b_2.map l7)) rfl<|l9 (.int .i64 (i_18:Int)) rfl<|x8 (a1r (enc:=l7) rfl rfl hx30)<|o7 (l7 x_35) rfl nle rfl<|?_;refine x8 (a3m (v:=(.own 1 0 r_38.length)) (h2:=[.dead,.row 3 (r_38.map l7)]) [] [0] (fun _ => rfl) (b1v _ _ _ er39) rfl (.refl _) (.refl _) rfl rfl) ?_;refine l9 (.own 1 0 r_38.length) rfl<|y7<|a2c<|a0f<|a0k<|l9 (.int .i64 (i_18:Int)) rfl<|o7 (.int .i64 (w64 ((i_18:Int) + 1))) rfl rfl rfl<|l9 (.int .i64 (w64 ((i_18:Int) + 1))) rfl<|y7<|?_;exact a1t ⟨((i_18 + 1),r_38),hc1⟩ (mul hlt29) ⟨[],[1],_,_,rfl,rfl,⟨.refl _,⟨.refl _,⟨.of_eq (congrArg (AV.int _) (a1w hlt29 hl37)),trivial⟩⟩⟩,(.refl _)⟩
 ·refine sr<|l9 (.own 0 0 out_27.length) rfl<|l9 (.own 0 0 out_27.length) rfl<|dk<|a0a<|?_;obtain rfl:=os hf;exact a4r ⟨trivial,trivial⟩ rfl (by decide) (.of_eq (congrArg (AV.lst _) (tk (enc:=l7) out_27)))

/- spec.l03Minus -/
def e7c:a0n :=
 (.seq (.reg (tm 4 (.c .nil) .done))
 (.seq (.reg (tq 7 (.bslice 3 []) (tm 5 (.t 7) .done)))
 (.seq (.seq (.reg (tm 6 (.c (.int .i64 0)) .done))
 (.block 0 (.loop (.seq (.seq (.reg (tm 8 (.t 6) (tm 9 (.t 0) (tq 10 (.len (.t 9)) (tq 11 (.bin .lss (.t 8) (.t 10)) .done)))))
 (.cond (.t 11) .skip
 (.exit 0)))
 (.seq (.block 1 (.seq (.reg (tm 14 (.t 1) (tm 15 (.t 0) (tm 16 (.t 6) (tq 17 (.iaddr 3 (.t 15) (.t 16)) (tq 18 (.load 3 true (.t 17)) (tq 19 (.call 327 [(.t 14),(.t 18)]) (tq 20 (.not (.t 19)) .done))))))))
 (.cond (.t 20) (.reg (tm 21 (.t 5) (tm 22 (.t 0) (tm 23 (.t 6) (tq 24 (.iaddr 3 (.t 22) (.t 23)) (tq 25 (.load 3 true (.t 24)) (tq 26 (.bslice 3 [(.t 25)]) (tq 27 (.append 3 32 (.t 21) (.t 26)) (tm 5 (.t 27) .done)))))))))
 .skip)))
 (.reg (tm 12 (.t 6) (tq 13 (.bin .add (.t 12) (.c (.int .i64 1))) (tm 6 (.t 13) .done)))))))))
 (.cut (.seq (.reg (tm 28 (.t 5) (tm 4 (.t 28) .done)))
 .ret)))))
theorem e7d:a1c Tryz.prog Tryz.f358 = some (e7c.erase,[.mov (.t 4)],29):=by kernel_rfl
def a4a (b_2:(List o8)):List o8 → (List o8) → Option (List o8)
  | [],out_26 =>
    some out_26
  | x_46 :: xs,out_26 =>
    (a8v b_2 x_46).bind fun r_49 =>
    if (!r_49) then
    if (out_26 ++ [x_46]).length ≤ 2 ^ 30 then
    a4a b_2 xs  (out_26 ++ [x_46])
    else none
    else
    a4a b_2 xs  out_26

def b0e (a_1:(List o8)) (b_2:(List o8)):Option (List o8) :=
    (a4a b_2 a_1 []).bind fun out_38 =>
    some out_38
theorem c2b (a_1:(List o8)) (b_2:(List o8)) (r:(List o8)) (hf:b0e a_1 b_2 = some r):y8 Tryz.prog 358 .fresh [(.lst 3 (a_1.map l7)),(.lst 3 (b_2.map l7))] (.lst 3 (r.map l7)):=by
 refine y8.of_awp mixed Tryz.func358 e7d nle ?_;rw [a0h];unfold b0e at hf;unfold e7c;refine (show awp Tryz.prog true 0 _ (ofL [(0,(.lst 3 (a_1.map l7))),(1,(.lst 3 (b_2.map l7)))]) [] _ from ?_);refine sr<|l9 .nil rfl<|dk<|sr<|?_;refine x8 (a1z (j:=0) (as':=[]) rfl (fun _ => by decide) trivial (.refl _) rfl rfl rfl) ?_;refine l9 (.own 0 0 0) rfl<|dk<|o6<|sr<|l9 (.int .i64 0) rfl<|dk<|?_
 obtain ⟨out_38,hb1,hf⟩:=ob hf
 refine a1k ([(5,(.own 0 0 out_38.length))],[.row 3 (out_38.map l7)]) ?_ ?_
 ·refine a1m (X:={q:(Nat × (List o8)) // a4a b_2 (a_1.drop q.1) q.2 = some out_38}) (fun q => ([(0,(.lst 3 (a_1.map l7))),(1,(.lst 3 (b_2.map l7))),(5,(.own 0 0 q.1.2.length)),(6,(.int .i64 (q.1.1:Int)))],[.row 3 (q.1.2.map l7)])) (fun q => a_1.length - q.1.1) ⟨(0,[]),hb1⟩ ⟨[],[0],_,_,rfl,rfl,⟨.refl _,⟨.refl _,⟨.of_eq (congrArg (AV.own _ 0) (by simp)),⟨.refl _,trivial⟩⟩⟩⟩,(.refl _)⟩ ?_
  rintro ⟨⟨i_25,out_26⟩,hc1⟩
  have hc1:a4a b_2 (a_1.drop i_25) out_26 = some out_38:=hc1
  refine (show awp Tryz.prog true 0 _ (ofL [(0,(.lst 3 (a_1.map l7))),(1,(.lst 3 (b_2.map l7))),(5,(.own 0 0 out_26.length)),(6,(.int .i64 (i_25:Int)))]) [.row 3 (out_26.map l7)] _ from ?_)
  rcases a5p a_1 i_25 with ⟨hie42,hd45⟩ | ⟨hlt40,x_46,hx41,hd45⟩
  ·rw [hd45,a4a.eq_1] at hc1
   have hq44:=dlf hie42
   refine o6<|sr<|l9 (.int .i64 (i_25:Int)) rfl<|l9 (.lst 3 (a_1.map l7)) rfl<|a1e (a1p (enc:=l7) rfl) fun hl47 => o7 (.bool (decide ((i_25:Int) < (a_1.length:Int)))) rfl rfl rfl<|dk<|y5 rfl hq44<|a2u<|a2t<|a1x<|a2s<|?_;obtain rfl:=os hc1;exact ⟨[],[0],_,_,rfl,rfl,⟨.refl _,trivial⟩,(.refl _)⟩
  ·rw [hd45,a4a.eq_2] at hc1
   have hq44:=dlt hlt40
   refine o6<|sr<|l9 (.int .i64 (i_25:Int)) rfl<|l9 (.lst 3 (a_1.map l7)) rfl<|a1e (a1p (enc:=l7) rfl) fun hl48 => o7 (.bool (decide ((i_25:Int) < (a_1.length:Int)))) rfl rfl rfl<|dk<|x9 rfl hq44<|a0e<|a0f<|o6<|a3c<|sr<|?_
   obtain ⟨r_49,er50,hc1⟩:=ob hc1
   refine l9 (.lst 3 (b_2.map l7)) rfl<|l9 (.lst 3 (a_1.map l7)) rfl<|l9 (.int .i64 (i_25:Int)) rfl<|x8 (a1r (enc:=l7) rfl rfl hx41)<|o7 (l7 x_46) rfl nle rfl<|x8 (a0g (b4k _ _ _ er50) rfl (.refl _) rfl)<|o7 (.bool (!r_49)) rfl trivial rfl<|dk<|?_
   rcases oi hc1 with ⟨c51,hc1⟩ | ⟨c51,hc1⟩
   ·refine x9 rfl c51<|a0k<|?_
    obtain ⟨g52,hc1⟩:=og hc1
    refine l9 (.own 0 0 out_26.length) rfl<|l9 (.lst 3 (a_1.map l7)) rfl<|l9 (.int .i64 (i_25:Int)) rfl<|x8 (a1r (enc:=l7) rfl rfl hx41)<|o7 (l7 x_46) rfl nle rfl<|?_;refine x8 (a1z (j:=1) (as':=[(l7 x_46)]) rfl (fun _ => by decide) ⟨rfl,trivial⟩ (.refl _) rfl rfl rfl) ?_
    refine x8 (a5n (j:=2) (L:=((out_26 ++ [x_46]).map l7)) (len:=(out_26 ++ [x_46]).length) rfl false rfl rfl (fun _ => flo (enc:=l7) (fun _ => rfl) [x_46] _) (fun _ _ h => (c0j (show AV.own _ _ _ = AV.lst _ _ from h)).elim) (by decide) (c4b (enc:=l7) out_26 [x_46] _ (by rfl)) (by simp <;> omega) g52 rfl rfl) ?_
    refine l9 (.own 2 0 ((out_26 ++ [x_46]).length)) rfl<|y7<|a2c<|a0f<|a0k<|l9 (.int .i64 (i_25:Int)) rfl<|o7 (.int .i64 (w64 ((i_25:Int) + 1))) rfl rfl rfl<|l9 (.int .i64 (w64 ((i_25:Int) + 1))) rfl<|y7<|?_;exact a1t ⟨((i_25 + 1),out_26 ++ [x_46]),hc1⟩ (mul hlt40) ⟨[],[2],_,_,rfl,rfl,⟨.refl _,⟨.refl _,⟨.refl _,⟨.of_eq (congrArg (AV.int _) (a1w hlt40 hl48)),trivial⟩⟩⟩⟩,(.refl _)⟩
   ·refine y5 rfl (bf c51)<|a0e<|a2c<|a0f<|a0k<|l9 (.int .i64 (i_25:Int)) rfl<|o7 (.int .i64 (w64 ((i_25:Int) + 1))) rfl rfl rfl<|l9 (.int .i64 (w64 ((i_25:Int) + 1))) rfl<|y7<|?_;exact a1t ⟨((i_25 + 1),out_26),hc1⟩ (mul hlt40) ⟨[],[0],_,_,rfl,rfl,⟨.refl _,⟨.refl _,⟨.refl _,⟨.of_eq (congrArg (AV.int _) (a1w hlt40 hl48)),trivial⟩⟩⟩⟩,(.refl _)⟩
 ·refine sr<|l9 (.own 0 0 out_38.length) rfl<|l9 (.own 0 0 out_38.length) rfl<|dk<|a0a<|?_;obtain rfl:=os hf;exact a4r ⟨trivial,trivial⟩ rfl (by decide) (.of_eq (congrArg (AV.lst _) (tk (enc:=l7) out_38)))

/- spec.l07Number -/
def e7e:a0n :=
 (.seq (.reg (tm 6 (.c (.int .i64 0)) (tm 7 (.c (.bool false)) .done)))
 (.seq (.reg (tm 8 (.c (.int .i64 0)) .done))
 (.seq (.seq (.reg (tm 9 (.t 0) .done))
 (.block 0 (.seq (.reg (tq 21 (.bin .eql (.t 9) (.c (.int .i64 1))) (tm 20 (.t 21) .done)))
 (.cond (.t 20) (.reg (tm 22 (.t 1) (tm 23 (.t 2) (tq 24 (.bin .add (.t 22) (.t 23)) (tm 8 (.t 24) .done)))))
 (.seq (.reg (tq 26 (.bin .eql (.t 9) (.c (.int .i64 2))) (tm 25 (.t 26) .done)))
 (.cond (.t 25) (.reg (tm 27 (.t 1) (tm 28 (.t 2) (tq 29 (.bin .sub (.t 27) (.t 28)) (tm 8 (.t 29) .done)))))
 (.seq (.reg (tq 31 (.bin .eql (.t 9) (.c (.int .i64 3))) (tm 30 (.t 31) .done)))
 (.cond (.t 30) (.reg (tm 32 (.t 1) (tm 33 (.t 2) (tq 34 (.bin .mul (.t 32) (.t 33)) (tm 8 (.t 34) .done)))))
 (.seq (.seq (.reg (tm 10 (.t 2) (tq 11 (.bin .eql (.t 10) (.c (.int .i64 0))) .done)))
 (.cond (.t 11) (.seq (.reg (tm 6 (.c (.int .i64 0)) (tm 7 (.c (.bool false)) .done)))
 .ret)
 .skip))
 (.seq (.reg (tm 12 (.t 1) (tm 13 (.t 2) (tq 14 (.bin .quo (.t 12) (.t 13)) (tm 8 (.t 14) .done)))))
 (.seq (.reg (tm 15 (.t 0) (tq 16 (.bin .eql (.t 15) (.c (.int .i64 5))) .done)))
 (.cond (.t 16) (.reg (tm 17 (.t 1) (tm 18 (.t 2) (tq 19 (.bin .rem (.t 17) (.t 18)) (tm 8 (.t 19) .done)))))
 .skip))))))))))))
 (.cut (.seq (.reg (tm 35 (.t 8) (tm 36 (.t 8) (tq 37 (.call 158 [(.t 36),(.c (.int .i64 (-1000000000))),(.c (.int .i64 1000000000))]) (tm 6 (.t 35) (tm 7 (.t 37) .done))))))
 .ret)))))
theorem e7f:a1c Tryz.prog Tryz.f359 = some (e7e.erase,[.mov (.t 6),.mov (.t 7)],38):=by kernel_rfl
def a9b (f_1:Int) (a_2:Int) (b_3:Int):Option (Int × Bool) :=
    ((if (f_1 == 1) then
    some (.go (w64 (a_2 + b_3)))
    else
    if (f_1 == 2) then
    some (.go (w64 (a_2 - b_3)))
    else
    if (f_1 == 3) then
    some (.go (w64 (a_2 * b_3)))
    else
    if (b_3 == 0) then
    some (.ret (0,false))
    else
    if b_3 ≠ 0 then
    if (f_1 == 5) then
    if b_3 ≠ 0 then
    some (.go (a_2.tmod b_3))
    else none
    else
    some (.go (w64 (a_2.tdiv b_3)))
    else none:Option (Fl (Int × Bool) Int))).bind fun q => (match q with
    | .ret r => some r
    | .go n_11 =>
    (a3r n_11 (-1000000000) 1000000000).bind fun r_20 =>
    some (n_11,r_20))
theorem c0q (f_1:Int) (a_2:Int) (b_3:Int) (r:(Int × Bool)) (hf:a9b f_1 a_2 b_3 = some r):y8 Tryz.prog 359 .flat [(.int .i64 f_1),(.int .i64 a_2),(.int .i64 b_3)] (.tup [(.int .i64 r.1),(.bool r.2)]):=by
 refine y8.of_awp mixed Tryz.func359 e7f nle ?_;rw [a0h];unfold a9b at hf;unfold e7e;refine (show awp Tryz.prog false 0 _ (ofL [(0,(.int .i64 f_1)),(1,(.int .i64 a_2)),(2,(.int .i64 b_3))]) [] _ from ?_);refine sr<|l9 (.int .i64 0) rfl<|l9 (.bool false) rfl<|dk<|sr<|l9 (.int .i64 0) rfl<|dk<|o6<|?_
 obtain ⟨p12,hb1,hf⟩:=ob hf
 refine a2i (X:={q:Int // p12 = .go q}) (fun q => ([(8,(.int .i64 q.1))],[])) ?_ ?_
 ·refine sr<|l9 (.int .i64 f_1) rfl<|dk<|a3c<|sr<|o7 (.bool (f_1 == 1)) rfl rfl rfl<|l9 (.bool (f_1 == 1)) rfl<|dk<|?_
  rcases oi hb1 with ⟨c13,hb1⟩ | ⟨c13,hb1⟩
  ·refine x9 rfl c13<|a0k<|l9 (.int .i64 a_2) rfl<|l9 (.int .i64 b_3) rfl<|o7 (.int .i64 (w64 (a_2 + b_3))) rfl rfl rfl<|l9 (.int .i64 (w64 (a_2 + b_3))) rfl<|y7<|a2c<|?_;obtain rfl:=os hb1;exact a3h ⟨_,rfl⟩ ⟨[],[],_,_,rfl,rfl,⟨.refl _,trivial⟩,(.refl _)⟩
  ·refine y5 rfl (bf c13)<|sr<|o7 (.bool (f_1 == 2)) rfl rfl rfl<|l9 (.bool (f_1 == 2)) rfl<|dk<|?_
   rcases oi hb1 with ⟨c14,hb1⟩ | ⟨c14,hb1⟩
   ·refine x9 rfl c14<|a0k<|l9 (.int .i64 a_2) rfl<|l9 (.int .i64 b_3) rfl<|o7 (.int .i64 (w64 (a_2 - b_3))) rfl rfl rfl<|l9 (.int .i64 (w64 (a_2 - b_3))) rfl<|y7<|a2c<|?_;obtain rfl:=os hb1;exact a3h ⟨_,rfl⟩ ⟨[],[],_,_,rfl,rfl,⟨.refl _,trivial⟩,(.refl _)⟩
   ·refine y5 rfl (bf c14)<|sr<|o7 (.bool (f_1 == 3)) rfl rfl rfl<|l9 (.bool (f_1 == 3)) rfl<|dk<|?_
    rcases oi hb1 with ⟨c15,hb1⟩ | ⟨c15,hb1⟩
    ·refine x9 rfl c15<|a0k<|l9 (.int .i64 a_2) rfl<|l9 (.int .i64 b_3) rfl<|o7 (.int .i64 (w64 (a_2 * b_3))) rfl rfl rfl<|l9 (.int .i64 (w64 (a_2 * b_3))) rfl<|y7<|a2c<|?_;obtain rfl:=os hb1;exact a3h ⟨_,rfl⟩ ⟨[],[],_,_,rfl,rfl,⟨.refl _,trivial⟩,(.refl _)⟩
    ·refine y5 rfl (bf c15)<|o6<|sr<|l9 (.int .i64 b_3) rfl<|o7 (.bool (b_3 == 0)) rfl rfl rfl<|dk<|?_
     rcases oi hb1 with ⟨c16,hb1⟩ | ⟨c16,hb1⟩
     ·refine x9 rfl c16<|sr<|l9 (.int .i64 0) rfl<|l9 (.bool false) rfl<|dk<|a0a<|?_;obtain rfl:=os hb1;obtain rfl:=os hf;exact a0d ⟨trivial,⟨trivial,trivial⟩⟩ rfl (.refl _)
     ·refine y5 rfl (bf c16)<|a0e<|a0f<|sr<|?_
      obtain ⟨g17,hb1⟩:=og hb1
      refine l9 (.int .i64 a_2) rfl<|l9 (.int .i64 b_3) rfl<|o7 (.int .i64 (w64 (a_2.tdiv b_3))) rfl ⟨rfl,g17⟩ rfl<|l9 (.int .i64 (w64 (a_2.tdiv b_3))) rfl<|dk<|sr<|l9 (.int .i64 f_1) rfl<|o7 (.bool (f_1 == 5)) rfl rfl rfl<|dk<|?_
      rcases oi hb1 with ⟨c18,hb1⟩ | ⟨c18,hb1⟩
      ·refine x9 rfl c18<|a0k<|?_
       obtain ⟨g19,hb1⟩:=og hb1
       refine l9 (.int .i64 a_2) rfl<|l9 (.int .i64 b_3) rfl<|o7 (.int .i64 (a_2.tmod b_3)) rfl ⟨rfl,g19⟩ rfl<|l9 (.int .i64 (a_2.tmod b_3)) rfl<|y7<|a2c<|?_;obtain rfl:=os hb1;exact a3h ⟨_,rfl⟩ ⟨[],[],_,_,rfl,rfl,⟨.refl _,trivial⟩,(.refl _)⟩
      ·refine y5 rfl (bf c18)<|a0e<|a2c<|?_;obtain rfl:=os hb1;exact a3h ⟨_,rfl⟩ ⟨[],[],_,_,rfl,rfl,⟨.refl _,trivial⟩,(.refl _)⟩
 ·rintro ⟨n_11,rfl⟩
  refine sr<|?_
  obtain ⟨r_20,er21,hf⟩:=ob hf
  refine l9 (.int .i64 n_11) rfl<|l9 (.int .i64 n_11) rfl<|x8 (a0g (a3b _ _ _ _ er21) rfl (.refl _) rfl)<|l9 (.int .i64 n_11) rfl<|l9 (.bool r_20) rfl<|dk<|a0a<|?_;obtain rfl:=os hf;exact a0d ⟨trivial,⟨trivial,trivial⟩⟩ rfl (.refl _)

/- spec.l07Mutate -/
def e7g:a0n :=
 (.seq (.reg (tq 3 (.box 8 (.t 0)) (tq 5 (.box 3 (.t 2)) (tm 6 (.c .nil) (tm 7 (.c (.int .i64 0)) .done)))))
 (.seq (.reg (tq 13 (.bslice 3 []) (tm 8 (.t 13) .done)))
 (.seq (.seq (.reg (tq 14 (.faddr 1 (.t 5)) (tq 15 (.load 1 false (.t 14)) .done)))
 (.block 0 (.seq (.reg (tq 46 (.bin .eql (.t 15) (.c (.int .i64 6))) (tm 45 (.t 46) .done)))
 (.cond (.t 45) (.reg (tm 47 (.t 1) (tq 48 (.faddr 2 (.t 5)) (tq 49 (.load 1 false (.t 48)) (tq 50 (.call 357 [(.t 47),(.t 49)]) (tm 8 (.t 50) .done))))))
 (.seq (.reg (tq 52 (.bin .eql (.t 15) (.c (.int .i64 7))) (tm 51 (.t 52) .done)))
 (.cond (.t 51) (.reg (tm 53 (.t 1) (tq 54 (.faddr 2 (.t 5)) (tq 55 (.load 1 false (.t 54)) (tq 56 (.call 358 [(.t 53),(.t 55)]) (tm 8 (.t 56) .done))))))
 (.seq (.reg (tm 9 (.c (.int .i64 0)) .done))
 (.block 1 (.loop (.seq (.seq (.reg (tm 16 (.t 9) (tm 17 (.t 1) (tq 18 (.len (.t 17)) (tq 19 (.bin .lss (.t 16) (.t 18)) .done)))))
 (.cond (.t 19) .skip
 (.exit 1)))
 (.seq (.block 2 (.seq (.reg (tq 23 (.faddr 1 (.t 5)) (tq 24 (.load 1 false (.t 23)) (tm 25 (.t 1) (tm 26 (.t 9) (tq 27 (.iaddr 3 (.t 25) (.t 26)) (tq 28 (.faddr 1 (.t 27)) (tq 29 (.load 1 false (.t 28)) (tq 30 (.faddr 2 (.t 5)) (tq 31 (.load 1 false (.t 30)) (tq 32 (.iaddr 3 (.t 31) (.c (.int .i64 0))) (tq 33 (.faddr 1 (.t 32)) (tq 34 (.load 1 false (.t 33)) (.l ⟨(some 35),none,.call 359 [(.t 24),(.t 29),(.t 34)]⟩ []
 (tm 22 (.t 35) (tq 36 (.extract 0 (.t 22)) (tq 37 (.extract 1 (.t 22)) (tm 10 (.t 36) (tm 11 (.t 37) .done))))) .non))))))))))))))
 (.seq (.seq (.reg (tm 38 (.t 11) (tq 39 (.not (.t 38)) .done)))
 (.cond (.t 39) (.seq (.reg (tq 40 (.bslice 3 []) (tm 6 (.t 40) (tm 7 (.c (.int .i64 4)) .done))))
 .ret)
 .skip))
 (.reg (tm 41 (.t 8) (tm 42 (.t 10) (tq 43 (.build [(.int .i64 0),(.int .i64 0),(.str [])] [(0,1,(.c (.int .i64 1))),(1,1,(.t 42))]) (tq 44 (.call 284 [(.t 41),(.t 43)]) (tm 8 (.t 44) .done)))))))))
 (.reg (tm 20 (.t 9) (tq 21 (.bin .add (.t 20) (.c (.int .i64 1))) (tm 9 (.t 21) .done)))))))))))))))
 (.cut (.seq (.seq (.reg (tq 57 (.load 8 true (.t 3)) (tm 58 (.t 8) (tq 59 (.call 356 [(.t 57),(.t 58)]) (tm 12 (.t 59) .done)))))
 (.seq (.reg (tm 60 (.t 12) (tq 61 (.bin .neq (.t 60) (.c (.int .i64 0))) .done)))
 (.cond (.t 61) (.seq (.reg (tq 62 (.bslice 3 []) (tm 63 (.t 12) (tm 6 (.t 62) (tm 7 (.t 63) .done)))))
 .ret)
 .skip)))
 (.seq (.reg (tm 64 (.t 8) (tm 6 (.t 64) (tm 7 (.c (.int .i64 0)) .done))))
 .ret))))))
theorem e7h:a1c Tryz.prog Tryz.f258 = some (e7g.erase,[.mov (.t 6),.mov (.t 7)],65):=by kernel_rfl
def a3u (m_3:a2w):List o8 → (List o8) → Option (Fl ((List o8) × Int) (List o8))
  | [],out_98 =>
    some (.go out_98)
  | x_118 :: xs,out_98 =>
    (idx m_3.Value 0).bind fun x_121 =>
    (a9b m_3.Func x_118.N x_121.N).bind fun r_123 =>
    if (!r_123.2) then
    some (.ret ([],4))
    else
    (a6h out_98 (⟨1,r_123.1,[]⟩:o8)).bind fun r_126 =>
    a3u m_3 xs  r_126

def a6w (c_1:a0m) (d_2:(List o8)) (m_3:a2w):Option ((List o8) × Int) :=
    ((if (m_3.Func == 6) then
    (b3d d_2 m_3.Value).bind fun r_68 =>
    some (.go r_68)
    else
    if (m_3.Func == 7) then
    (b0e d_2 m_3.Value).bind fun r_71 =>
    some (.go r_71)
    else
    a3u m_3 d_2 []:Option (Fl ((List o8) × Int) (List o8)))).bind fun q => (match q with
    | .ret r => some r
    | .go out_65 =>
    (a9n c_1 out_65).bind fun r_128 =>
    if (r_128 != 0) then
    some ([],r_128)
    else
    some (out_65,0))
theorem c0r (c_1:a0m) (d_2:(List o8)) (m_3:a2w) (r:((List o8) × Int)) (hf:a6w c_1 d_2 m_3 = some r):y8 Tryz.prog 258 .fresh [(o5 c_1),(.lst 3 (d_2.map l7)),(a0c m_3)] (.tup [(.lst 3 (r.1.map l7)),(.int .i64 r.2)]):=by
 refine y8.of_awp mixed Tryz.func258 e7h nle ?_;rw [a0h];unfold a6w at hf;unfold e7g;refine (show awp Tryz.prog true 0 _ (ofL [(0,(o5 c_1)),(1,(.lst 3 (d_2.map l7))),(2,(a0c m_3))]) [] _ from ?_);refine sr<|x8 (a1o (j:=0) (c:=(.agg [(.str c_1.Name),(.int .i64 c_1.Kind),(.int .i64 c_1.Min),(.int .i64 c_1.Max),(.int .i64 c_1.Low),(.int .i64 c_1.High),(.str c_1.Ref),(.bool c_1.Strong)])) rfl trivial rfl rfl)<|x8 (a1o (j:=1) (c:=(.agg [(.str m_3.Column),(.int .i64 m_3.Func),(.lst 3 (m_3.Value.map l7))])) rfl trivial rfl rfl)<|l9 .nil rfl<|l9 (.int .i64 0) rfl<|dk<|sr<|?_;refine x8 (a1z (j:=2) (as':=[]) rfl (fun _ => by decide) trivial (.refl _) rfl rfl rfl) ?_
 refine l9 (.own 2 0 0) rfl<|dk<|o6<|?_
 obtain ⟨p66,hb1,hf⟩:=ob hf
 refine a2i (X:={q:(List o8) // p66 = .go q}) (fun q => ([(3,(.ptr 0 0 0)),(8,(.own 1 0 q.1.length))],[.box 8 (.agg [(.str c_1.Name),(.int .i64 c_1.Kind),(.int .i64 c_1.Min),(.int .i64 c_1.Max),(.int .i64 c_1.Low),(.int .i64 c_1.High),(.str c_1.Ref),(.bool c_1.Strong)]),.row 3 (q.1.map l7)])) ?_ ?_
 ·refine sr<|o7 (.ptr 1 0 1) rfl trivial rfl<|o7 (.int .i64 m_3.Func) rfl nle rfl<|dk<|a3c<|sr<|o7 (.bool (m_3.Func == 6)) rfl rfl rfl<|l9 (.bool (m_3.Func == 6)) rfl<|dk<|?_
  rcases oi hb1 with ⟨c67,hb1⟩ | ⟨c67,hb1⟩
  ·refine x9 rfl c67<|a0k<|?_
   obtain ⟨r_68,er69,hb1⟩:=ob hb1
   refine l9 (.lst 3 (d_2.map l7)) rfl<|o7 (.ptr 1 0 2) rfl trivial rfl<|o7 (.lst 3 (m_3.Value.map l7)) rfl nle rfl<|x8 (b1e (v:=(.own 3 0 r_68.length)) (h':=[.row 3 (r_68.map l7)]) (c4l _ _ _ er69) rfl (.refl _) (by simp only [a4h,a5o,List.length_map,List.nil_append,List.append_nil,List.cons_append];rfl))<|l9 (.own 3 0 r_68.length) rfl<|y7<|a2c<|?_;obtain rfl:=os hb1;exact a3h ⟨_,rfl⟩ ⟨[],[0,3],_,_,rfl,rfl,⟨.refl _,⟨.refl _,trivial⟩⟩,(.refl _)⟩
  ·refine y5 rfl (bf c67)<|sr<|o7 (.bool (m_3.Func == 7)) rfl rfl rfl<|l9 (.bool (m_3.Func == 7)) rfl<|dk<|?_
   rcases oi hb1 with ⟨c70,hb1⟩ | ⟨c70,hb1⟩
   ·refine x9 rfl c70<|a0k<|?_
    obtain ⟨r_71,er72,hb1⟩:=ob hb1
    refine l9 (.lst 3 (d_2.map l7)) rfl<|o7 (.ptr 1 0 2) rfl trivial rfl<|o7 (.lst 3 (m_3.Value.map l7)) rfl nle rfl<|x8 (b1e (v:=(.own 3 0 r_71.length)) (h':=[.row 3 (r_71.map l7)]) (c2b _ _ _ er72) rfl (.refl _) (by simp only [a4h,a5o,List.length_map,List.nil_append,List.append_nil,List.cons_append];rfl))<|l9 (.own 3 0 r_71.length) rfl<|y7<|a2c<|?_;obtain rfl:=os hb1;exact a3h ⟨_,rfl⟩ ⟨[],[0,3],_,_,rfl,rfl,⟨.refl _,⟨.refl _,trivial⟩⟩,(.refl _)⟩
   ·refine y5 rfl (bf c70)<|sr<|l9 (.int .i64 0) rfl<|dk<|?_;refine a1m (X:={q:(Nat × (List o8)) // a3u m_3 (d_2.drop q.1) q.2 = some p66}) (fun q => ([(1,(.lst 3 (d_2.map l7))),(3,(.ptr 0 0 0)),(5,(.ptr 1 0 0)),(8,(.own 2 0 q.1.2.length)),(9,(.int .i64 (q.1.1:Int)))],[.box 8 (.agg [(.str c_1.Name),(.int .i64 c_1.Kind),(.int .i64 c_1.Min),(.int .i64 c_1.Max),(.int .i64 c_1.Low),(.int .i64 c_1.High),(.str c_1.Ref),(.bool c_1.Strong)]),.box 3 (.agg [(.str m_3.Column),(.int .i64 m_3.Func),(.lst 3 (m_3.Value.map l7))]),.row 3 (q.1.2.map l7)])) (fun q => d_2.length - q.1.1) ⟨(0,[]),hb1⟩ ⟨[],[0,1,2],_,_,rfl,rfl,⟨.refl _,⟨.refl _,⟨.refl _,⟨.of_eq (congrArg (AV.own _ 0) (by simp)),⟨.refl _,trivial⟩⟩⟩⟩⟩,(.refl _)⟩ ?_
    rintro ⟨⟨i_97,out_98⟩,hc2⟩
    have hc2:a3u m_3 (d_2.drop i_97) out_98 = some p66:=hc2
    refine (show awp Tryz.prog true 0 _ (ofL [(1,(.lst 3 (d_2.map l7))),(3,(.ptr 0 0 0)),(5,(.ptr 1 0 0)),(8,(.own 2 0 out_98.length)),(9,(.int .i64 (i_97:Int)))]) [.box 8 (.agg [(.str c_1.Name),(.int .i64 c_1.Kind),(.int .i64 c_1.Min),(.int .i64 c_1.Max),(.int .i64 c_1.Low),(.int .i64 c_1.High),(.str c_1.Ref),(.bool c_1.Strong)]),.box 3 (.agg [(.str m_3.Column),(.int .i64 m_3.Func),(.lst 3 (m_3.Value.map l7))]),.row 3 (out_98.map l7)] _ from ?_)
    rcases a5p d_2 i_97 with ⟨hie114,hd117⟩ | ⟨hlt112,x_118,hx113,hd117⟩
    ·rw [hd117,a3u.eq_1] at hc2
     have hq116:=dlf hie114
     refine o6<|sr<|l9 (.int .i64 (i_97:Int)) rfl<|l9 (.lst 3 (d_2.map l7)) rfl<|a1e (a1p (enc:=l7) rfl) fun hl119 => o7 (.bool (decide ((i_97:Int) < (d_2.length:Int)))) rfl rfl rfl<|dk<|y5 rfl hq116<|a2u<|a2t<|a1x<|a2s<|?_;refine a2c ?_;obtain rfl:=os hc2;exact a3h ⟨_,rfl⟩ ⟨[],[0,2],_,_,rfl,rfl,⟨.refl _,⟨.refl _,trivial⟩⟩,(.refl _)⟩
    ·rw [hd117,a3u.eq_2] at hc2
     have hq116:=dlt hlt112
     refine o6<|sr<|l9 (.int .i64 (i_97:Int)) rfl<|l9 (.lst 3 (d_2.map l7)) rfl<|a1e (a1p (enc:=l7) rfl) fun hl120 => o7 (.bool (decide ((i_97:Int) < (d_2.length:Int)))) rfl rfl rfl<|dk<|x9 rfl hq116<|a0e<|a0f<|o6<|a3c<|sr<|o7 (.ptr 1 0 1) rfl trivial rfl<|o7 (.int .i64 m_3.Func) rfl nle rfl<|l9 (.lst 3 (d_2.map l7)) rfl<|l9 (.int .i64 (i_97:Int)) rfl<|x8 (a1r (enc:=l7) rfl rfl hx113)<|o7 (.iptr (l7 x_118) 1) rfl trivial rfl<|o7 (.int .i64 x_118.N) rfl nle rfl<|o7 (.ptr 1 0 2) rfl trivial rfl<|o7 (.lst 3 (m_3.Value.map l7)) rfl nle rfl<|?_
     obtain ⟨x_121,ex122,hc2⟩:=ob hc2
     refine x8 (a3l (enc:=l7) rfl rfl (a8m ex122) (a8n ex122))<|o7 (.iptr (l7 x_121) 1) rfl trivial rfl<|o7 (.int .i64 x_121.N) rfl nle rfl<|?_
     obtain ⟨r_123,er124,hc2⟩:=ob hc2
     refine a2j (a0g (c0q _ _ _ _ er124) rfl (.refl _) rfl) a6a trivial<|l9 (.tup [(.int .i64 r_123.1),(.bool r_123.2)]) rfl<|o7 (.int .i64 r_123.1) rfl nle rfl<|o7 (.bool r_123.2) rfl nle rfl<|l9 (.int .i64 r_123.1) rfl<|l9 (.bool r_123.2) rfl<|dk<|o6<|sr<|l9 (.bool r_123.2) rfl<|o7 (.bool (!r_123.2)) rfl trivial rfl<|dk<|?_
     rcases oi hc2 with ⟨d4s,hc2⟩ | ⟨d4s,hc2⟩
     ·refine x9 rfl d4s<|sr<|?_;refine x8 (a1z (j:=3) (as':=[]) rfl (fun _ => by decide) trivial (.refl _) rfl rfl rfl) ?_;refine l9 (.own 3 0 0) rfl<|l9 (.int .i64 4) rfl<|dk<|a0a<|?_;obtain rfl:=os hc2;obtain rfl:=os hf;exact a4r ⟨trivial,⟨trivial,trivial⟩⟩ rfl (by decide) (.refl _)
     ·refine y5 rfl (bf d4s)<|a0e<|a0f<|a0k<|?_
      obtain ⟨r_126,er127,hc2⟩:=ob hc2
      refine l9 (.own 2 0 out_98.length) rfl<|l9 (.int .i64 r_123.1) rfl<|o7 (.agg [(.int .i64 1),(.int .i64 r_123.1),(.str [])]) rfl ⟨⟨rfl,nle,trivial⟩,⟨⟨rfl,nle,trivial⟩,trivial⟩⟩ rfl<|?_;refine x8 (a3m (v:=(.own 3 0 r_126.length)) (h2:=[.box 8 (.agg [(.str c_1.Name),(.int .i64 c_1.Kind),(.int .i64 c_1.Min),(.int .i64 c_1.Max),(.int .i64 c_1.Low),(.int .i64 c_1.High),(.str c_1.Ref),(.bool c_1.Strong)]),.box 3 (.agg [(.str m_3.Column),(.int .i64 m_3.Func),(.lst 3 (m_3.Value.map l7))]),.dead,.row 3 (r_126.map l7)]) [] [2] (fun _ => rfl) (b1v _ _ _ er127) rfl (.refl _) (.refl _) rfl rfl) ?_;refine l9 (.own 3 0 r_126.length) rfl<|y7<|a2c<|a0f<|?_
      refine a0k<|l9 (.int .i64 (i_97:Int)) rfl<|o7 (.int .i64 (w64 ((i_97:Int) + 1))) rfl rfl rfl<|l9 (.int .i64 (w64 ((i_97:Int) + 1))) rfl<|y7<|?_;exact a1t ⟨((i_97 + 1),r_126),hc2⟩ (mul hlt112) ⟨[],[0,1,3],_,_,rfl,rfl,⟨.refl _,⟨.refl _,⟨.refl _,⟨.refl _,⟨.of_eq (congrArg (AV.int _) (a1w hlt112 hl120)),trivial⟩⟩⟩⟩⟩,(.refl _)⟩
 ·rintro ⟨out_65,rfl⟩
  refine o6<|sr<|?_
  obtain ⟨r_128,er129,hf⟩:=ob hf
  refine o7 (.agg [(.str c_1.Name),(.int .i64 c_1.Kind),(.int .i64 c_1.Min),(.int .i64 c_1.Max),(.int .i64 c_1.Low),(.int .i64 c_1.High),(.str c_1.Ref),(.bool c_1.Strong)]) rfl nle rfl<|l9 (.own 1 0 out_65.length) rfl<|x8 (a0g (b6j _ _ _ er129) rfl (.cons (.refl _) (.cons (.of_eq (congrArg (AV.lst _) (tko out_65))) .nil)) rfl)<|l9 (.int .i64 r_128) rfl<|dk<|sr<|l9 (.int .i64 r_128) rfl<|o7 (.bool (r_128 != 0)) rfl rfl rfl<|dk<|?_
  rcases oi hf with ⟨c130,hf⟩ | ⟨c130,hf⟩
  ·refine x9 rfl c130<|sr<|?_;refine x8 (a1z (j:=2) (as':=[]) rfl (fun _ => by decide) trivial (.refl _) rfl rfl rfl) ?_;refine l9 (.int .i64 r_128) rfl<|l9 (.own 2 0 0) rfl<|l9 (.int .i64 r_128) rfl<|dk<|a0a<|?_;obtain rfl:=os hf;exact a4r ⟨trivial,⟨trivial,trivial⟩⟩ rfl (by decide) (.refl _)
  ·refine y5 rfl (bf c130)<|a0e<|a0f<|sr<|l9 (.own 1 0 out_65.length) rfl<|l9 (.own 1 0 out_65.length) rfl<|l9 (.int .i64 0) rfl<|dk<|a0a<|?_;obtain rfl:=os hf;exact a4r ⟨trivial,⟨trivial,trivial⟩⟩ rfl (by decide) (.tup (.cons (.of_eq (congrArg (AV.lst _) (tk (enc:=l7) out_65))) (.cons (.refl _) .nil)))

/- spec.l07Row -/
def c131:a0n :=
 (.seq (.reg (tq 3 (.box 4 (.t 0)) (tq 4 (.box 2 (.t 1)) (tq 6 (.box 2 (.c (.agg [(.int .i64 0),.nil]))) (tm 7 (.c (.int .i64 0)) .done)))))
 (.seq (.reg (tq 12 (.load 2 true (.t 4)) (tq 13 (.call 257 [(.t 12)]) (.q ⟨none,none,.store 2 (.t 4) (.t 13)⟩
 .done))))
 (.seq (.seq (.reg (tm 8 (.c (.int .i64 0)) .done))
 (.block 0 (.loop (.seq (.seq (.reg (tm 14 (.t 8) (tm 15 (.t 2) (tq 16 (.len (.t 15)) (tq 17 (.bin .lss (.t 14) (.t 16)) .done)))))
 (.cond (.t 17) .skip
 (.exit 0)))
 (.seq (.block 1 (.seq (.reg (tq 20 (.load 4 true (.t 3)) (tm 21 (.t 2) (tm 22 (.t 8) (tq 23 (.iaddr 3 (.t 21) (.t 22)) (tq 24 (.faddr 0 (.t 23)) (tq 25 (.load 1 false (.t 24)) (.l ⟨(some 26),none,.call 235 [(.t 20),(.t 25)]⟩ []
 (tm 9 (.t 26) .done) .non))))))))
 (.seq (.reg (tq 28 (.faddr 1 (.t 3)) (tq 29 (.load 1 false (.t 28)) (tm 30 (.t 9) (tq 31 (.iaddr 8 (.t 29) (.t 30)) (tq 32 (.load 8 true (.t 31)) (tq 33 (.faddr 1 (.t 4)) (tq 34 (.load 1 false (.t 33)) (tm 35 (.t 9) (tq 36 (.iaddr 1 (.t 34) (.t 35)) (tq 37 (.load 1 false (.t 36)) (tm 38 (.t 2) (tm 39 (.t 8) (tq 40 (.iaddr 3 (.t 38) (.t 39)) (tq 41 (.load 3 true (.t 40)) (.l ⟨(some 42),none,.call 258 [(.t 32),(.t 37),(.t 41)]⟩ []
 (tm 27 (.t 42) (tq 43 (.extract 0 (.t 27)) (tq 44 (.extract 1 (.t 27)) (tm 10 (.t 43) (tm 11 (.t 44) .done))))) .non))))))))))))))))
 (.seq (.seq (.reg (tm 45 (.t 11) (tq 46 (.bin .neq (.t 45) (.c (.int .i64 0))) .done)))
 (.cond (.t 46) (.seq (.reg (tq 47 (.build [(.int .i64 0),.nil] []) (tm 48 (.t 11) (.q ⟨none,none,.store 2 (.t 6) (.t 47)⟩
 (tm 7 (.t 48) .done)))))
 .ret)
 .skip))
 (.reg (tq 49 (.faddr 1 (.t 4)) (tq 50 (.load 1 false (.t 49)) (tm 51 (.t 9) (tm 52 (.t 10) (tq 53 (.iaddr 1 (.t 50) (.t 51)) (.q ⟨none,none,.store 1 (.t 53) (.t 52)⟩
 .done)))))))))))
 (.reg (tm 18 (.t 8) (tq 19 (.bin .add (.t 18) (.c (.int .i64 1))) (tm 8 (.t 19) .done)))))))))
 (.cut (.seq (.reg (tq 54 (.load 2 true (.t 4)) (.q ⟨none,none,.store 2 (.t 6) (.t 54)⟩
 (tm 7 (.c (.int .i64 0)) .done))))
 .ret)))))
theorem e7i:a1c Tryz.prog Tryz.f131 = some (c131.erase,[.load 2 true (.t 6),.mov (.t 7)],55):=by kernel_rfl
def a4u (t_1:a0w):List a2w → (List (List o8)) → Option (Fl (a4p × Int) (List (List o8)))
  | [],x_43 =>
    some (.go x_43)
  | x_70 :: xs,x_43 =>
    (a6v t_1 x_70.Column).bind fun r_73 =>
    (idx t_1.Columns r_73).bind fun x_75 =>
    if (0:Int) ≤ r_73 ∧ r_73 < (x_43.length:Int) then
    (x_43[(0 + r_73.toNat)]?).bind fun x_78 =>
    (a6w x_75 x_78 x_70).bind fun r_80 =>
    if (r_80.2 != 0) then
    some (.ret ((⟨0,[]⟩:a4p),r_80.2))
    else
    if (0:Int) ≤ r_73 ∧ r_73 < (x_43.length:Int) then
    a4u t_1 xs  (x_43.set (0 + r_73.toNat) r_80.1)
    else none
    else none

def b4a (t_1:a0w) (r_2:a4p) (list_3:(List a2w)):Option (a4p × Int) :=
    (a9a r_2).bind fun r_4 =>
    (a4u t_1 list_3 r_4.Cells).bind fun q => (match q with
    | .ret r => some r
    | .go x_62 =>
    some ((⟨r_4.Id,x_62⟩:a4p),0))
theorem c5u (t_1:a0w) (r_2:a4p) (list_3:(List a2w)) (r:(a4p × Int)) (hf:b4a t_1 r_2 list_3 = some r):y8 Tryz.prog 131 .fresh [(a1b t_1),(a3g r_2),(.lst 3 (list_3.map a0c))] (.tup [(a3g r.1),(.int .i64 r.2)]):=by
 refine y8.of_awp mixed Tryz.func131 e7i nle ?_;rw [a0h];unfold b4a at hf;unfold c131;refine (show awp Tryz.prog true 0 _ (ofL [(0,(a1b t_1)),(1,(a3g r_2)),(2,(.lst 3 (list_3.map a0c)))]) [] _ from ?_);refine sr<|x8 (a1o (j:=0) (c:=(.agg [(.str t_1.Name),(.lst 8 (t_1.Columns.map o5)),(.lst 1 (t_1.Unique.map encI)),(.bool t_1.Root)])) rfl trivial rfl rfl)<|x8 (a1o (j:=1) (c:=(.agg [(.int .i64 r_2.Id),(.lst 1 (r_2.Cells.map (a1n 3 l7)))])) rfl trivial rfl rfl)<|x8 (a1o (j:=2) (c:=(.agg [(.int .i64 0),.nil])) rfl trivial rfl rfl)<|l9 (.int .i64 0) rfl<|dk<|sr<|?_
 obtain ⟨r_4,er5,hf⟩:=ob hf
 refine o7 (.agg [(.int .i64 r_2.Id),(.lst 1 (r_2.Cells.map (a1n 3 l7)))]) rfl nle rfl<|x8 (b1e (v:=(.agg [(.int .i64 r_4.Id),(.own 3 0 r_4.Cells.length)])) (h':=[.row 1 (r_4.Cells.map (a1n 3 l7))]) (c0p _ _ er5) rfl (.refl _) (by simp only [a4h,a5o,List.length_map,b8e,List.nil_append,List.append_nil,List.cons_append];rfl))<|a3w (a0v (v:=(.agg [(.int .i64 r_4.Id),(.own 3 0 r_4.Cells.length)])) (y':=(.agg [(.int .i64 r_4.Id),(.own 3 0 r_4.Cells.length)])) rfl rfl rfl trivial ⟨rfl,nle⟩ ⟨⟨rfl,trivial⟩,⟨⟨rfl,trivial⟩,trivial⟩⟩ rfl)<|dk<|o6<|sr<|l9 (.int .i64 0) rfl<|dk<|?_
 obtain ⟨p63,hb1,hf⟩:=ob hf
 refine a2i (X:={q:(List (List o8)) // p63 = .go q}) (fun q => ([(4,(.ptr 0 0 0)),(6,(.ptr 1 0 0))],[.box 2 (.agg [(.int .i64 r_4.Id),(.own 2 0 q.1.length)]),.box 2 (.agg [(.int .i64 0),.nil]),.row 1 (q.1.map (a1n 3 l7))])) ?_ ?_
 ·refine a1m (X:={q:(Nat × (List (List o8))) // a4u t_1 (list_3.drop q.1) q.2 = some p63}) (fun q => ([(2,(.lst 3 (list_3.map a0c))),(3,(.ptr 0 0 0)),(4,(.ptr 1 0 0)),(6,(.ptr 2 0 0)),(8,(.int .i64 (q.1.1:Int)))],[.box 4 (.agg [(.str t_1.Name),(.lst 8 (t_1.Columns.map o5)),(.lst 1 (t_1.Unique.map encI)),(.bool t_1.Root)]),.box 2 (.agg [(.int .i64 r_4.Id),(.own 3 0 q.1.2.length)]),.box 2 (.agg [(.int .i64 0),.nil]),.row 1 (q.1.2.map (a1n 3 l7))])) (fun q => list_3.length - q.1.1) ⟨(0,r_4.Cells),hb1⟩ ⟨[],[0,1,2,3],_,_,rfl,rfl,⟨.refl _,⟨.refl _,⟨.refl _,⟨.refl _,⟨.refl _,trivial⟩⟩⟩⟩⟩,(.refl _)⟩ ?_
  rintro ⟨⟨i_42,x_43⟩,hc1⟩
  have hc1:a4u t_1 (list_3.drop i_42) x_43 = some p63:=hc1
  refine (show awp Tryz.prog true 0 _ (ofL [(2,(.lst 3 (list_3.map a0c))),(3,(.ptr 0 0 0)),(4,(.ptr 1 0 0)),(6,(.ptr 2 0 0)),(8,(.int .i64 (i_42:Int)))]) [.box 4 (.agg [(.str t_1.Name),(.lst 8 (t_1.Columns.map o5)),(.lst 1 (t_1.Unique.map encI)),(.bool t_1.Root)]),.box 2 (.agg [(.int .i64 r_4.Id),(.own 3 0 x_43.length)]),.box 2 (.agg [(.int .i64 0),.nil]),.row 1 (x_43.map (a1n 3 l7))] _ from ?_)
  rcases a5p list_3 i_42 with ⟨hie66,hd69⟩ | ⟨hlt64,x_70,hx65,hd69⟩
  ·rw [hd69,a4u.eq_1] at hc1
   have hq68:=dlf hie66
   refine o6<|sr<|l9 (.int .i64 (i_42:Int)) rfl<|l9 (.lst 3 (list_3.map a0c)) rfl<|a1e (a1p (enc:=a0c) rfl) fun hl71 => o7 (.bool (decide ((i_42:Int) < (list_3.length:Int)))) rfl rfl rfl<|dk<|y5 rfl hq68<|a2u<|a2t<|a1x<|a2s<|?_;obtain rfl:=os hc1;exact a3h ⟨_,rfl⟩ ⟨[],[1,2,3],_,_,rfl,rfl,⟨.refl _,⟨.refl _,trivial⟩⟩,(.refl _)⟩
  ·rw [hd69,a4u.eq_2] at hc1
   have hq68:=dlt hlt64
   refine o6<|sr<|l9 (.int .i64 (i_42:Int)) rfl<|l9 (.lst 3 (list_3.map a0c)) rfl<|a1e (a1p (enc:=a0c) rfl) fun hl72 => o7 (.bool (decide ((i_42:Int) < (list_3.length:Int)))) rfl rfl rfl<|dk<|x9 rfl hq68<|a0e<|a0f<|o6<|a3c<|sr<|?_
   obtain ⟨r_73,er74,hc1⟩:=ob hc1
   refine o7 (.agg [(.str t_1.Name),(.lst 8 (t_1.Columns.map o5)),(.lst 1 (t_1.Unique.map encI)),(.bool t_1.Root)]) rfl nle rfl<|l9 (.lst 3 (list_3.map a0c)) rfl<|l9 (.int .i64 (i_42:Int)) rfl<|x8 (a1r (enc:=a0c) rfl rfl hx65)<|o7 (.iptr (a0c x_70) 0) rfl trivial rfl<|o7 (.str x_70.Column) rfl nle rfl<|a2j (a0g (b4r _ _ _ er74) rfl (.refl _) rfl) a6a trivial<|l9 (.int .i64 r_73) rfl<|dk<|sr<|o7 (.ptr 0 0 1) rfl trivial rfl<|o7 (.lst 8 (t_1.Columns.map o5)) rfl nle rfl<|l9 (.int .i64 r_73) rfl<|?_
   obtain ⟨x_75,ex76,hc1⟩:=ob hc1
   refine x8 (a3l (enc:=o5) rfl rfl (a8m ex76) (a8n ex76))<|o7 (o5 x_75) rfl nle rfl<|o7 (.ptr 1 0 1) rfl trivial rfl<|o7 (.own 3 0 x_43.length) rfl nle rfl<|l9 (.int .i64 r_73) rfl<|?_
   obtain ⟨g77,hc1⟩:=og hc1
   refine x8 (a3o rfl rfl g77.1 g77.2 rfl rfl) ?_
   obtain ⟨x_78,ex79,hc1⟩:=ob hc1
   refine x8 (a6j (enc:=(a1n 3 l7)) (v:=(.lst 3 (x_78.map l7))) rfl rfl ex79 ⟨rfl,rfl⟩ rfl)<|l9 (.lst 3 (list_3.map a0c)) rfl<|l9 (.int .i64 (i_42:Int)) rfl<|x8 (a1r (enc:=a0c) rfl rfl hx65)<|o7 (a0c x_70) rfl nle rfl<|?_
   obtain ⟨r_80,er81,hc1⟩:=ob hc1
   refine a2j (b1e (v:=(.tup [(.own 4 0 r_80.1.length),(.int .i64 r_80.2)])) (h':=[.row 3 (r_80.1.map l7)]) (c0r _ _ _ _ er81) rfl (.refl _) (by simp only [a4h,a5o,List.length_map,List.nil_append,List.append_nil,List.cons_append];rfl)) trivial trivial<|l9 (.tup [(.own 4 0 r_80.1.length),(.int .i64 r_80.2)]) rfl<|o7 (.own 4 0 r_80.1.length) rfl nle rfl<|o7 (.int .i64 r_80.2) rfl nle rfl<|l9 (.own 4 0 r_80.1.length) rfl<|l9 (.int .i64 r_80.2) rfl<|dk<|o6<|sr<|l9 (.int .i64 r_80.2) rfl<|o7 (.bool (r_80.2 != 0)) rfl rfl rfl<|dk<|?_
   rcases oi hc1 with ⟨c82,hc1⟩ | ⟨c82,hc1⟩
   ·refine x9 rfl c82<|sr<|o7 (.agg [(.int .i64 0),.nil]) rfl trivial rfl<|l9 (.int .i64 r_80.2) rfl<|a3w (a0v (v:=(.agg [(.int .i64 0),.nil])) (y':=(.agg [(.int .i64 0),.nil])) rfl rfl rfl trivial ⟨rfl,nle⟩ ⟨⟨rfl,trivial⟩,⟨⟨rfl,trivial⟩,trivial⟩⟩ rfl)<|l9 (.int .i64 r_80.2) rfl<|dk<|a0a<|?_;obtain rfl:=os hc1;obtain rfl:=os hf;exact a4r ⟨nle,⟨trivial,trivial⟩⟩ rfl (by decide) (.tup (.cons (.agg (.cons (.refl _) (.cons (.nil _) .nil))) (.cons (.refl _) .nil)))
   ·refine y5 rfl (bf c82)<|a0e<|a0f<|a0k<|?_
    obtain ⟨g83,hc1⟩:=og hc1
    refine o7 (.ptr 1 0 1) rfl trivial rfl<|o7 (.own 3 0 x_43.length) rfl nle rfl<|l9 (.int .i64 r_73) rfl<|l9 (.own 4 0 r_80.1.length) rfl<|x8 (a3o rfl rfl g83.1 g83.2 rfl rfl)<|?_
    refine a3w (b0k (v':=(.lst 3 (r_80.1.map l7))) (e':=r_80.1) rfl rfl ex79 rfl rfl (by first | (simp only [tk,tko,List.take_length];done) | rfl | simp) (by decide) (fun _ => by decide) ⟨rfl,rfl,rfl⟩ (.refl _) rfl) ?_
    refine y7<|a2c<|a0f<|a0k<|l9 (.int .i64 (i_42:Int)) rfl<|o7 (.int .i64 (w64 ((i_42:Int) + 1))) rfl rfl rfl<|l9 (.int .i64 (w64 ((i_42:Int) + 1))) rfl<|y7<|?_;exact a1t ⟨((i_42 + 1),x_43.set (0 + r_73.toNat) r_80.1),hc1⟩ (mul hlt64) ⟨[],[0,1,2,3],_,_,rfl,rfl,⟨.refl _,⟨.refl _,⟨.refl _,⟨.refl _,⟨.of_eq (congrArg (AV.int _) (a1w hlt64 hl72)),trivial⟩⟩⟩⟩⟩,(.cons (.refl _) (.cons (.box (.agg (.cons (.refl _) (.cons (.of_eq (congrArg (AV.own _ 0) (by simp))) .nil)))) (.cons (.refl _) (.cons (.refl _) .nil))))⟩
 ·rintro ⟨x_62,rfl⟩
  refine sr<|o7 (.agg [(.int .i64 r_4.Id),(.own 2 0 x_62.length)]) rfl nle rfl<|a3w (a0v (v:=(.agg [(.int .i64 r_4.Id),(.own 2 0 x_62.length)])) (y':=(.agg [(.int .i64 r_4.Id),(.own 2 0 x_62.length)])) rfl rfl rfl trivial ⟨rfl,nle⟩ ⟨⟨rfl,trivial⟩,⟨⟨rfl,trivial⟩,trivial⟩⟩ rfl)<|l9 (.int .i64 0) rfl<|dk<|a0a<|?_;obtain rfl:=os hf;exact a4r ⟨nle,⟨trivial,trivial⟩⟩ rfl (by decide) (.tup (.cons (.agg (.cons (.refl _) (.cons (.of_eq (congrArg (AV.lst _) (tk (enc:=(a1n 3 l7)) x_62))) .nil))) (.cons (.refl _) .nil)))

/- spec.MutateRow -/
def c35:a0n :=
 (.seq (.reg (tq 3 (.box 4 (.t 0)) (tq 4 (.box 2 (.t 1)) (tq 6 (.box 2 (.c (.agg [(.int .i64 0),.nil]))) (tm 7 (.c (.int .i64 0)) .done)))))
 (.seq (.seq (.reg (tm 9 (.t 2) (tq 10 (.len (.t 9)) (tq 11 (.bin .gtr (.t 10) (.c (.int .i64 4096))) .done))))
 (.cond (.t 11) (.seq (.reg (tq 12 (.build [(.int .i64 0),.nil] []) (.q ⟨none,none,.store 2 (.t 6) (.t 12)⟩
 (tm 7 (.c (.int .i64 2)) .done))))
 .ret)
 .skip))
 (.seq (.seq (.reg (tq 13 (.load 4 true (.t 3)) (tq 14 (.load 2 true (.t 4)) (tq 15 (.call 128 [(.t 13),(.t 14)]) (tq 16 (.not (.t 15)) (tm 17 (.t 16) (tg 18 17 false (.mov (.t 2)) (tg 19 17 false (.call 129 [(.t 18)]) (tg 20 17 false (.not (.t 19)) (tq 21 (.pick (.t 17) (.c (.bool true)) (.t 20)) .done))))))))))
 (.cut (.cond (.t 21) (.seq (.reg (tq 22 (.build [(.int .i64 0),.nil] []) (.q ⟨none,none,.store 2 (.t 6) (.t 22)⟩
 (tm 7 (.c (.int .i64 1)) .done))))
 .ret)
 .skip)))
 (.seq (.seq (.reg (tq 23 (.load 4 true (.t 3)) (tm 24 (.t 2) (tq 25 (.call 130 [(.t 23),(.t 24)]) (tm 8 (.t 25) .done)))))
 (.seq (.reg (tm 26 (.t 8) (tq 27 (.bin .neq (.t 26) (.c (.int .i64 0))) .done)))
 (.cond (.t 27) (.seq (.reg (tq 28 (.build [(.int .i64 0),.nil] []) (tm 29 (.t 8) (.q ⟨none,none,.store 2 (.t 6) (.t 28)⟩
 (tm 7 (.t 29) .done)))))
 .ret)
 .skip)))
 (.seq (.reg (tq 30 (.load 4 true (.t 3)) (tq 31 (.load 2 true (.t 4)) (tm 32 (.t 2) (tq 33 (.call 131 [(.t 30),(.t 31),(.t 32)]) (tq 34 (.extract 0 (.t 33)) (tq 35 (.extract 1 (.t 33)) (.q ⟨none,none,.store 2 (.t 6) (.t 34)⟩
 (tm 7 (.t 35) .done)))))))))
 .ret)))))
theorem e8h:a1c Tryz.prog Tryz.f35 = some (c35.erase,[.load 2 true (.t 6),.mov (.t 7)],36):=by kernel_rfl
def a9c (t_1:a0w) (r_2:a4p) (list_3:(List a2w)):Option (a4p × Int) :=
    if (decide ((list_3.length:Int) > 4096)) then
    some ((⟨0,[]⟩:a4p),2)
    else
    (((b3t t_1 r_2).bind fun r_13 =>
    if (!r_13) then
    some true
    else
    (a9o list_3).bind fun r_16 =>
    some (!r_16):Option Bool)).bind fun s21_11 =>
    if s21_11 then
    some ((⟨0,[]⟩:a4p),1)
    else
    (b0d t_1 list_3).bind fun r_19 =>
    if (r_19 != 0) then
    some ((⟨0,[]⟩:a4p),r_19)
    else
    (b4a t_1 r_2 list_3).bind fun r_22 =>
    some (r_22.1,r_22.2)
theorem c0s (t_1:a0w) (r_2:a4p) (list_3:(List a2w)) (r:(a4p × Int)) (hf:a9c t_1 r_2 list_3 = some r):y8 Tryz.prog 35 .fresh [(a1b t_1),(a3g r_2),(.lst 3 (list_3.map a0c))] (.tup [(a3g r.1),(.int .i64 r.2)]):=by
 refine y8.of_awp mixed Tryz.func35 e8h nle ?_;rw [a0h];unfold a9c at hf;unfold c35;refine (show awp Tryz.prog true 0 _ (ofL [(0,(a1b t_1)),(1,(a3g r_2)),(2,(.lst 3 (list_3.map a0c)))]) [] _ from ?_);refine sr<|x8 (a1o (j:=0) (c:=(.agg [(.str t_1.Name),(.lst 8 (t_1.Columns.map o5)),(.lst 1 (t_1.Unique.map encI)),(.bool t_1.Root)])) rfl trivial rfl rfl)<|x8 (a1o (j:=1) (c:=(.agg [(.int .i64 r_2.Id),(.lst 1 (r_2.Cells.map (a1n 3 l7)))])) rfl trivial rfl rfl)<|x8 (a1o (j:=2) (c:=(.agg [(.int .i64 0),.nil])) rfl trivial rfl rfl)<|l9 (.int .i64 0) rfl<|dk<|o6<|sr<|l9 (.lst 3 (list_3.map a0c)) rfl<|?_
 refine a1e (a1p (enc:=a0c) rfl) fun hl4 => o7 (.bool (decide ((list_3.length:Int) > 4096))) rfl rfl rfl<|dk<|?_
 rcases oi hf with ⟨c5,hf⟩ | ⟨c5,hf⟩
 ·refine x9 rfl c5<|sr<|o7 (.agg [(.int .i64 0),.nil]) rfl trivial rfl<|a3w (a0v (v:=(.agg [(.int .i64 0),.nil])) (y':=(.agg [(.int .i64 0),.nil])) rfl rfl rfl trivial ⟨rfl,nle⟩ ⟨⟨rfl,trivial⟩,⟨⟨rfl,trivial⟩,trivial⟩⟩ rfl)<|l9 (.int .i64 2) rfl<|dk<|a0a<|?_;obtain rfl:=os hf;exact a4r ⟨nle,⟨trivial,trivial⟩⟩ rfl (by decide) (.tup (.cons (.agg (.cons (.refl _) (.cons (.nil _) .nil))) (.cons (.refl _) .nil)))
 ·refine y5 rfl (bf c5)<|a0e<|a0f<|o6<|o6<|?_
  obtain ⟨s21_11,hb1,hf⟩:=ob hf
  refine a1k ([(2,(.lst 3 (list_3.map a0c))),(3,(.ptr 0 0 0)),(4,(.ptr 1 0 0)),(6,(.ptr 2 0 0)),(21,(.bool s21_11))],[.box 4 (.agg [(.str t_1.Name),(.lst 8 (t_1.Columns.map o5)),(.lst 1 (t_1.Unique.map encI)),(.bool t_1.Root)]),.box 2 (.agg [(.int .i64 r_2.Id),(.lst 1 (r_2.Cells.map (a1n 3 l7)))]),.box 2 (.agg [(.int .i64 0),.nil])]) ?_ ?_
  ·refine a0k ?_
   obtain ⟨r_13,er14,hb1⟩:=ob hb1
   rcases oi hb1 with ⟨c15,hb1⟩ | ⟨c15,hb1⟩
   ·refine o7 (.agg [(.str t_1.Name),(.lst 8 (t_1.Columns.map o5)),(.lst 1 (t_1.Unique.map encI)),(.bool t_1.Root)]) rfl nle rfl<|o7 (.agg [(.int .i64 r_2.Id),(.lst 1 (r_2.Cells.map (a1n 3 l7)))]) rfl nle rfl<|x8 (a0g (b9h _ _ _ er14) rfl (.refl _) rfl)<|o7 (.bool (!r_13)) rfl trivial rfl<|l9 (.bool (!r_13)) rfl<|a0u (s:=17) (b:=true) rfl c15<|o9 rfl rfl<|o9 rfl rfl<|o9 rfl rfl<|o7 (.bool true) rfl trivial rfl<|y7<|?_;obtain rfl:=os hb1;exact ⟨[],[0,1,2],_,_,rfl,rfl,⟨.refl _,⟨.refl _,⟨.refl _,⟨.refl _,⟨.refl _,trivial⟩⟩⟩⟩⟩,(.refl _)⟩
   ·obtain ⟨r_16,er17,hb1⟩:=ob hb1
    refine o7 (.agg [(.str t_1.Name),(.lst 8 (t_1.Columns.map o5)),(.lst 1 (t_1.Unique.map encI)),(.bool t_1.Root)]) rfl nle rfl<|o7 (.agg [(.int .i64 r_2.Id),(.lst 1 (r_2.Cells.map (a1n 3 l7)))]) rfl nle rfl<|x8 (a0g (b9h _ _ _ er14) rfl (.refl _) rfl)<|o7 (.bool (!r_13)) rfl trivial rfl<|l9 (.bool (!r_13)) rfl<|a0u (s:=17) (b:=false) rfl (bf c15)<|s_on rfl<|l9 (.lst 3 (list_3.map a0c)) rfl<|s_on rfl<|x8 (a0g (c4k _ _ er17) rfl (.refl _) rfl)<|s_on rfl<|o7 (.bool (!r_16)) rfl trivial rfl<|o7 (.bool (!r_16)) rfl trivial rfl<|y7<|?_;obtain rfl:=os hb1;exact ⟨[],[0,1,2],_,_,rfl,rfl,⟨.refl _,⟨.refl _,⟨.refl _,⟨.refl _,⟨.refl _,trivial⟩⟩⟩⟩⟩,(.refl _)⟩
  ·rcases oi hf with ⟨c18,hf⟩ | ⟨c18,hf⟩
   ·refine x9 rfl c18<|sr<|o7 (.agg [(.int .i64 0),.nil]) rfl trivial rfl<|a3w (a0v (v:=(.agg [(.int .i64 0),.nil])) (y':=(.agg [(.int .i64 0),.nil])) rfl rfl rfl trivial ⟨rfl,nle⟩ ⟨⟨rfl,trivial⟩,⟨⟨rfl,trivial⟩,trivial⟩⟩ rfl)<|l9 (.int .i64 1) rfl<|dk<|a0a<|?_;obtain rfl:=os hf;exact a4r ⟨nle,⟨trivial,trivial⟩⟩ rfl (by decide) (.tup (.cons (.agg (.cons (.refl _) (.cons (.nil _) .nil))) (.cons (.refl _) .nil)))
   ·refine y5 rfl (bf c18)<|a0e<|a0f<|o6<|sr<|?_
    obtain ⟨r_19,er20,hf⟩:=ob hf
    refine o7 (.agg [(.str t_1.Name),(.lst 8 (t_1.Columns.map o5)),(.lst 1 (t_1.Unique.map encI)),(.bool t_1.Root)]) rfl nle rfl<|l9 (.lst 3 (list_3.map a0c)) rfl<|x8 (a0g (c2a _ _ _ er20) rfl (.refl _) rfl)<|l9 (.int .i64 r_19) rfl<|dk<|sr<|l9 (.int .i64 r_19) rfl<|o7 (.bool (r_19 != 0)) rfl rfl rfl<|dk<|?_
    rcases oi hf with ⟨c21,hf⟩ | ⟨c21,hf⟩
    ·refine x9 rfl c21<|sr<|o7 (.agg [(.int .i64 0),.nil]) rfl trivial rfl<|l9 (.int .i64 r_19) rfl<|a3w (a0v (v:=(.agg [(.int .i64 0),.nil])) (y':=(.agg [(.int .i64 0),.nil])) rfl rfl rfl trivial ⟨rfl,nle⟩ ⟨⟨rfl,trivial⟩,⟨⟨rfl,trivial⟩,trivial⟩⟩ rfl)<|l9 (.int .i64 r_19) rfl<|dk<|a0a<|?_;obtain rfl:=os hf;exact a4r ⟨nle,⟨trivial,trivial⟩⟩ rfl (by decide) (.tup (.cons (.agg (.cons (.refl _) (.cons (.nil _) .nil))) (.cons (.refl _) .nil)))
    ·refine y5 rfl (bf c21)<|a0e<|a0f<|sr<|?_
     obtain ⟨r_22,er23,hf⟩:=ob hf
     refine o7 (.agg [(.str t_1.Name),(.lst 8 (t_1.Columns.map o5)),(.lst 1 (t_1.Unique.map encI)),(.bool t_1.Root)]) rfl nle rfl<|o7 (.agg [(.int .i64 r_2.Id),(.lst 1 (r_2.Cells.map (a1n 3 l7)))]) rfl nle rfl<|l9 (.lst 3 (list_3.map a0c)) rfl<|x8 (b1e (v:=(.tup [(.agg [(.int .i64 r_22.1.Id),(.own 3 0 r_22.1.Cells.length)]),(.int .i64 r_22.2)])) (h':=[.row 1 (r_22.1.Cells.map (a1n 3 l7))]) (c5u _ _ _ _ er23) rfl (.refl _) (by simp only [a4h,a5o,List.length_map,b8e,List.nil_append,List.append_nil,List.cons_append];rfl))<|o7 (.agg [(.int .i64 r_22.1.Id),(.own 3 0 r_22.1.Cells.length)]) rfl nle rfl<|o7 (.int .i64 r_22.2) rfl nle rfl<|?_
     refine a3w (a0v (v:=(.agg [(.int .i64 r_22.1.Id),(.own 3 0 r_22.1.Cells.length)])) (y':=(.agg [(.int .i64 r_22.1.Id),(.own 3 0 r_22.1.Cells.length)])) rfl rfl rfl trivial ⟨rfl,nle⟩ ⟨⟨rfl,trivial⟩,⟨⟨rfl,trivial⟩,trivial⟩⟩ rfl)<|l9 (.int .i64 r_22.2) rfl<|dk<|a0a<|?_;obtain rfl:=os hf;exact a4r ⟨nle,⟨trivial,trivial⟩⟩ rfl (by decide) (.tup (.cons (.agg (.cons (.refl _) (.cons (.of_eq (congrArg (AV.lst _) (tk (enc:=(a1n 3 l7)) r_22.1.Cells))) .nil))) (.cons (.refl _) .nil)))

/- laws.sameDatum -/
def c64:a0n :=
 (.seq (.reg (tm 4 (.c (.bool false)) .done))
 (.seq (.seq (.reg (tm 6 (.t 0) (tq 7 (.len (.t 6)) (tm 8 (.t 1) (tq 9 (.len (.t 8)) (tq 10 (.bin .neq (.t 7) (.t 9)) .done))))))
 (.cond (.t 10) (.seq (.reg (tm 4 (.c (.bool false)) .done))
 .ret)
 .skip))
 (.seq (.seq (.reg (tm 5 (.c (.int .i64 0)) .done))
 (.block 0 (.loop (.seq (.seq (.reg (tm 11 (.t 5) (tm 12 (.t 0) (tq 13 (.len (.t 12)) (tq 14 (.bin .lss (.t 11) (.t 13)) .done)))))
 (.cond (.t 14) .skip
 (.exit 0)))
 (.seq (.block 1 (.seq (.reg (tm 17 (.t 0) (tm 18 (.t 5) (tq 19 (.iaddr 3 (.t 17) (.t 18)) (tq 20 (.load 3 true (.t 19)) (tm 21 (.t 1) (tm 22 (.t 5) (tq 23 (.iaddr 3 (.t 21) (.t 22)) (tq 24 (.load 3 true (.t 23)) (tq 25 (.eqs true [0,0,2] (.t 20) (.t 24)) .done))))))))))
 (.cond (.t 25) (.seq (.reg (tm 4 (.c (.bool false)) .done))
 .ret)
 .skip)))
 (.reg (tm 15 (.t 5) (tq 16 (.bin .add (.t 15) (.c (.int .i64 1))) (tm 5 (.t 16) .done)))))))))
 (.cut (.seq (.reg (tm 4 (.c (.bool true)) .done))
 .ret)))))
theorem e8i:a1c Tryz.prog Tryz.f64 = some (c64.erase,[.mov (.t 4)],26):=by kernel_rfl
def a4f (b_2:(List o8)):List o8 → Nat → Option (Fl Bool Unit)
  | [],i_21 =>
    some (.go ())
  | x_37 :: xs,i_21 =>
    (idx b_2 (i_21:Int)).bind fun x_40 =>
    if (!(x_37.Kind == x_40.Kind && (x_37.N == x_40.N && (x_37.T == x_40.T && true)))) then
    some (.ret false)
    else
    a4f b_2 xs (i_21 + 1)

def a9d (a_1:(List o8)) (b_2:(List o8)):Option Bool :=
    if ((a_1.length:Int) != (b_2.length:Int)) then
    some false
    else
    (a4f b_2 a_1 0).bind fun q => (match q with
    | .ret r => some r
    | .go _ =>
    some true)
theorem c0t (a_1:(List o8)) (b_2:(List o8)) (r:Bool) (hf:a9d a_1 b_2 = some r):y8 Tryz.prog 64 .flat [(.lst 3 (a_1.map l7)),(.lst 3 (b_2.map l7))] (.bool r):=by
 refine y8.of_awp mixed Tryz.func64 e8i nle ?_;rw [a0h];unfold a9d at hf;unfold c64;refine (show awp Tryz.prog false 0 _ (ofL [(0,(.lst 3 (a_1.map l7))),(1,(.lst 3 (b_2.map l7)))]) [] _ from ?_);refine sr<|l9 (.bool false) rfl<|dk<|o6<|sr<|l9 (.lst 3 (a_1.map l7)) rfl<|a1e (a1p (enc:=l7) rfl) fun hl3 => l9 (.lst 3 (b_2.map l7)) rfl<|a1e (a1p (enc:=l7) rfl) fun hl4 => o7 (.bool ((a_1.length:Int) != (b_2.length:Int))) rfl rfl rfl<|dk<|?_
 rcases oi hf with ⟨c5,hf⟩ | ⟨c5,hf⟩
 ·refine x9 rfl c5<|sr<|l9 (.bool false) rfl<|dk<|a0a<|?_;obtain rfl:=os hf;exact a0d ⟨trivial,trivial⟩ rfl (.refl _)
 ·refine y5 rfl (bf c5)<|a0e<|a0f<|o6<|sr<|l9 (.int .i64 0) rfl<|dk<|?_
  obtain ⟨p30,hb1,hf⟩:=ob hf
  refine a2i (X:={q:Unit // p30 = .go q}) (fun q => ([],[])) ?_ ?_
  ·refine a1m (X:={q:Nat // a4f b_2 (a_1.drop q) q = some p30}) (fun q => ([(0,(.lst 3 (a_1.map l7))),(1,(.lst 3 (b_2.map l7))),(5,(.int .i64 (q.1:Int)))],[])) (fun q => a_1.length - q.1) ⟨0,hb1⟩ ⟨[],[],_,_,rfl,rfl,⟨.refl _,⟨.refl _,⟨.refl _,trivial⟩⟩⟩,(.refl _)⟩ ?_
   rintro ⟨i_21,hc1⟩
   have hc1:a4f b_2 (a_1.drop i_21) i_21 = some p30:=hc1
   refine (show awp Tryz.prog false 0 _ (ofL [(0,(.lst 3 (a_1.map l7))),(1,(.lst 3 (b_2.map l7))),(5,(.int .i64 (i_21:Int)))]) [] _ from ?_)
   rcases a5p a_1 i_21 with ⟨hie33,hd36⟩ | ⟨hlt31,x_37,hx32,hd36⟩
   ·rw [hd36,a4f.eq_1] at hc1
    have hq35:=dlf hie33
    refine o6<|sr<|l9 (.int .i64 (i_21:Int)) rfl<|l9 (.lst 3 (a_1.map l7)) rfl<|a1e (a1p (enc:=l7) rfl) fun hl38 => o7 (.bool (decide ((i_21:Int) < (a_1.length:Int)))) rfl rfl rfl<|dk<|y5 rfl hq35<|a2u<|a2t<|a1x<|a2s<|?_;obtain rfl:=os hc1;exact a3h ⟨_,rfl⟩ ⟨[],[],_,_,rfl,rfl,trivial,(.refl _)⟩
   ·rw [hd36,a4f.eq_2] at hc1
    have hq35:=dlt hlt31
    refine o6<|sr<|l9 (.int .i64 (i_21:Int)) rfl<|l9 (.lst 3 (a_1.map l7)) rfl<|a1e (a1p (enc:=l7) rfl) fun hl39 => o7 (.bool (decide ((i_21:Int) < (a_1.length:Int)))) rfl rfl rfl<|dk<|x9 rfl hq35<|a0e<|a0f<|o6<|a3c<|sr<|?_
    obtain ⟨x_40,ex41,hc1⟩:=ob hc1
    refine l9 (.lst 3 (a_1.map l7)) rfl<|l9 (.int .i64 (i_21:Int)) rfl<|x8 (a1r (enc:=l7) rfl rfl hx32)<|o7 (l7 x_37) rfl nle rfl<|l9 (.lst 3 (b_2.map l7)) rfl<|l9 (.int .i64 (i_21:Int)) rfl<|x8 (a3l (enc:=l7) rfl rfl (a8m ex41) (a8n ex41))<|o7 (l7 x_40) rfl nle rfl<|o7 (.bool (!(x_37.Kind == x_40.Kind && (x_37.N == x_40.N && (x_37.T == x_40.T && true))))) rfl ⟨⟨rfl,rfl⟩,⟨⟨rfl,rfl⟩,⟨rfl,trivial⟩⟩⟩ rfl<|dk<|?_
    rcases oi hc1 with ⟨c42,hc1⟩ | ⟨c42,hc1⟩
    ·refine x9 rfl c42<|sr<|l9 (.bool false) rfl<|dk<|a0a<|?_;obtain rfl:=os hc1;obtain rfl:=os hf;exact a0d ⟨trivial,trivial⟩ rfl (.refl _)
    ·refine y5 rfl (bf c42)<|a0e<|a2c<|a0f<|a0k<|l9 (.int .i64 (i_21:Int)) rfl<|o7 (.int .i64 (w64 ((i_21:Int) + 1))) rfl rfl rfl<|l9 (.int .i64 (w64 ((i_21:Int) + 1))) rfl<|y7<|?_;exact a1t ⟨(i_21 + 1),hc1⟩ (mul hlt31) ⟨[],[],_,_,rfl,rfl,⟨.refl _,⟨.refl _,⟨.of_eq (congrArg (AV.int _) (a1w hlt31 hl39)),trivial⟩⟩⟩,(.refl _)⟩
  ·rintro ⟨_,rfl⟩
   refine sr<|l9 (.bool true) rfl<|dk<|a0a<|?_;obtain rfl:=os hf;exact a0d ⟨trivial,trivial⟩ rfl (.refl _)

/- laws.sameRow -/
def c36:a0n :=
 (.seq (.reg (tq 2 (.box 2 (.t 0)) (tq 3 (.box 2 (.t 1)) (tm 4 (.c (.bool false)) .done))))
 (.seq (.seq (.reg (tq 6 (.faddr 0 (.t 2)) (tq 7 (.load 1 false (.t 6)) (tq 8 (.faddr 0 (.t 3)) (tq 9 (.load 1 false (.t 8)) (tq 10 (.bin .neq (.t 7) (.t 9)) (tm 11 (.t 10) (tg 12 11 false (.faddr 1 (.t 2)) (tg 13 11 false (.load 1 false (.t 12)) (tg 14 11 false (.len (.t 13)) (tg 15 11 false (.faddr 1 (.t 3)) (tg 16 11 false (.load 1 false (.t 15)) (tg 17 11 false (.len (.t 16)) (tg 18 11 false (.bin .neq (.t 14) (.t 17)) (tq 19 (.pick (.t 11) (.c (.bool true)) (.t 18)) .done)))))))))))))))
 (.cut (.cond (.t 19) (.seq (.reg (tm 4 (.c (.bool false)) .done))
 .ret)
 .skip)))
 (.seq (.seq (.reg (tm 5 (.c (.int .i64 0)) .done))
 (.block 0 (.loop (.seq (.seq (.reg (tm 20 (.t 5) (tq 21 (.faddr 1 (.t 2)) (tq 22 (.load 1 false (.t 21)) (tq 23 (.len (.t 22)) (tq 24 (.bin .lss (.t 20) (.t 23)) .done))))))
 (.cond (.t 24) .skip
 (.exit 0)))
 (.seq (.block 1 (.seq (.reg (tq 27 (.faddr 1 (.t 2)) (tq 28 (.load 1 false (.t 27)) (tm 29 (.t 5) (tq 30 (.iaddr 1 (.t 28) (.t 29)) (tq 31 (.load 1 false (.t 30)) (tq 32 (.faddr 1 (.t 3)) (tq 33 (.load 1 false (.t 32)) (tm 34 (.t 5) (tq 35 (.iaddr 1 (.t 33) (.t 34)) (tq 36 (.load 1 false (.t 35)) (.l ⟨(some 37),none,.call 64 [(.t 31),(.t 36)]⟩ []
 (tq 38 (.not (.t 37)) .done) .non))))))))))))
 (.cond (.t 38) (.seq (.reg (tm 4 (.c (.bool false)) .done))
 .ret)
 .skip)))
 (.reg (tm 25 (.t 5) (tq 26 (.bin .add (.t 25) (.c (.int .i64 1))) (tm 5 (.t 26) .done)))))))))
 (.cut (.seq (.reg (tm 4 (.c (.bool true)) .done))
 .ret)))))
theorem e8j:a1c Tryz.prog Tryz.f36 = some (c36.erase,[.mov (.t 4)],39):=by kernel_rfl
def a5h (b_2:a4p):List (List o8) → Nat → Option (Fl Bool Unit)
  | [],i_28 =>
    some (.go ())
  | x_46 :: xs,i_28 =>
    (idx b_2.Cells (i_28:Int)).bind fun x_49 =>
    (a9d x_46 x_49).bind fun r_51 =>
    if (!r_51) then
    some (.ret false)
    else
    a5h b_2 xs (i_28 + 1)

def b1p (a_1:a4p) (b_2:a4p):Option Bool :=
    ((some ():Option Unit)).bind fun _ =>
    if (bif (a_1.Id != b_2.Id) then true else ((a_1.Cells.length:Int) != (b_2.Cells.length:Int))) then
    some false
    else
    (a5h b_2 a_1.Cells 0).bind fun q => (match q with
    | .ret r => some r
    | .go _ =>
    some true)
theorem c4m (a_1:a4p) (b_2:a4p) (r:Bool) (hf:b1p a_1 b_2 = some r):y8 Tryz.prog 36 .flat [(a3g a_1),(a3g b_2)] (.bool r):=by
 refine y8.of_awp mixed Tryz.func36 e8j nle ?_;rw [a0h];unfold b1p at hf;unfold c36;refine (show awp Tryz.prog false 0 _ (ofL [(0,(a3g a_1)),(1,(a3g b_2))]) [] _ from ?_);refine sr<|x8 (a1o (j:=0) (c:=(.agg [(.int .i64 a_1.Id),(.lst 1 (a_1.Cells.map (a1n 3 l7)))])) rfl trivial rfl rfl)<|x8 (a1o (j:=1) (c:=(.agg [(.int .i64 b_2.Id),(.lst 1 (b_2.Cells.map (a1n 3 l7)))])) rfl trivial rfl rfl)<|l9 (.bool false) rfl<|dk<|o6<|o6<|?_
 obtain ⟨p5,hb1,hf⟩:=ob hf
 refine a1k ([(2,(.ptr 0 0 0)),(3,(.ptr 1 0 0)),(19,(.bool (bif (a_1.Id != b_2.Id) then true else ((a_1.Cells.length:Int) != (b_2.Cells.length:Int)))))],[.box 2 (.agg [(.int .i64 a_1.Id),(.lst 1 (a_1.Cells.map (a1n 3 l7)))]),.box 2 (.agg [(.int .i64 b_2.Id),(.lst 1 (b_2.Cells.map (a1n 3 l7)))])]) ?_ ?_
 ·refine a0k<|o7 (.ptr 0 0 0) rfl trivial rfl<|o7 (.int .i64 a_1.Id) rfl nle rfl<|o7 (.ptr 1 0 0) rfl trivial rfl<|o7 (.int .i64 b_2.Id) rfl nle rfl<|o7 (.bool (a_1.Id != b_2.Id)) rfl rfl rfl<|l9 (.bool (a_1.Id != b_2.Id)) rfl<|?_;refine s_g (v:=(a_1.Id != b_2.Id)) (.ptr 0 0 1) rfl (fun hv => by (try simp only [a0i hv]);exact ⟨rfl,trivial,rfl⟩) ?_;refine s_g (v:=(a_1.Id != b_2.Id)) (.lst 1 (a_1.Cells.map (a1n 3 l7))) rfl (fun hv => by (try simp only [a0i hv]);exact ⟨rfl,nle,rfl⟩) ?_;refine s_g (v:=(a_1.Id != b_2.Id)) (.int .i64 (a_1.Cells.length:Int)) rfl (fun hv => by (try simp only [a0i hv]);exact ⟨rfl,trivial,lenV _ _⟩) ?_;refine s_g (v:=(a_1.Id != b_2.Id)) (.ptr 1 0 1) rfl (fun hv => by (try simp only [a0i hv]);exact ⟨rfl,trivial,rfl⟩) ?_
  refine s_g (v:=(a_1.Id != b_2.Id)) (.lst 1 (b_2.Cells.map (a1n 3 l7))) rfl (fun hv => by (try simp only [a0i hv]);exact ⟨rfl,nle,rfl⟩) ?_;refine s_g (v:=(a_1.Id != b_2.Id)) (.int .i64 (b_2.Cells.length:Int)) rfl (fun hv => by (try simp only [a0i hv]);exact ⟨rfl,trivial,lenV _ _⟩) ?_;refine s_g (v:=(a_1.Id != b_2.Id)) (.bool ((a_1.Cells.length:Int) != (b_2.Cells.length:Int))) rfl (fun hv => by (try simp only [a0i hv]);exact ⟨rfl,rfl,rfl⟩) ?_;refine a6l (x:=true) (y:=((a_1.Cells.length:Int) != (b_2.Cells.length:Int))) rfl (fun hv => by (try simp only [a0i hv]);rfl) (fun hv => by (try simp only [a0i hv]);rfl) ?_;refine y7 ?_;obtain rfl:=os hb1;exact ⟨[],[0,1],_,_,rfl,rfl,⟨.refl _,⟨.refl _,⟨.refl _,trivial⟩⟩⟩,(.refl _)⟩
 ·rcases oi hf with ⟨c8,hf⟩ | ⟨c8,hf⟩
  ·refine x9 rfl c8<|sr<|l9 (.bool false) rfl<|dk<|a0a<|?_;obtain rfl:=os hf;exact a0d ⟨trivial,trivial⟩ rfl (.refl _)
  ·refine y5 rfl (bf c8)<|a0e<|a0f<|o6<|sr<|l9 (.int .i64 0) rfl<|dk<|?_
   obtain ⟨p39,hb1,hf⟩:=ob hf
   refine a2i (X:={q:Unit // p39 = .go q}) (fun q => ([],[])) ?_ ?_
   ·refine a1m (X:={q:Nat // a5h b_2 (a_1.Cells.drop q) q = some p39}) (fun q => ([(2,(.ptr 0 0 0)),(3,(.ptr 1 0 0)),(5,(.int .i64 (q.1:Int)))],[.box 2 (.agg [(.int .i64 a_1.Id),(.lst 1 (a_1.Cells.map (a1n 3 l7)))]),.box 2 (.agg [(.int .i64 b_2.Id),(.lst 1 (b_2.Cells.map (a1n 3 l7)))])])) (fun q => a_1.Cells.length - q.1) ⟨0,hb1⟩ ⟨[],[0,1],_,_,rfl,rfl,⟨.refl _,⟨.refl _,⟨.refl _,trivial⟩⟩⟩,(.refl _)⟩ ?_
    rintro ⟨i_28,hc1⟩
    have hc1:a5h b_2 (a_1.Cells.drop i_28) i_28 = some p39:=hc1
    refine (show awp Tryz.prog false 0 _ (ofL [(2,(.ptr 0 0 0)),(3,(.ptr 1 0 0)),(5,(.int .i64 (i_28:Int)))]) [.box 2 (.agg [(.int .i64 a_1.Id),(.lst 1 (a_1.Cells.map (a1n 3 l7)))]),.box 2 (.agg [(.int .i64 b_2.Id),(.lst 1 (b_2.Cells.map (a1n 3 l7)))])] _ from ?_)
    rcases a5p a_1.Cells i_28 with ⟨hie42,hd45⟩ | ⟨hlt40,x_46,hx41,hd45⟩
    ·rw [hd45,a5h.eq_1] at hc1
     have hq44:=dlf hie42
     refine o6<|sr<|l9 (.int .i64 (i_28:Int)) rfl<|o7 (.ptr 0 0 1) rfl trivial rfl<|o7 (.lst 1 (a_1.Cells.map (a1n 3 l7))) rfl nle rfl<|a1e (a1p (enc:=(a1n 3 l7)) rfl) fun hl47 => o7 (.bool (decide ((i_28:Int) < (a_1.Cells.length:Int)))) rfl rfl rfl<|dk<|y5 rfl hq44<|a2u<|a2t<|a1x<|a2s<|?_;obtain rfl:=os hc1;exact a3h ⟨_,rfl⟩ ⟨[],[],_,_,rfl,rfl,trivial,(.refl _)⟩
    ·rw [hd45,a5h.eq_2] at hc1
     have hq44:=dlt hlt40
     refine o6<|sr<|l9 (.int .i64 (i_28:Int)) rfl<|o7 (.ptr 0 0 1) rfl trivial rfl<|o7 (.lst 1 (a_1.Cells.map (a1n 3 l7))) rfl nle rfl<|a1e (a1p (enc:=(a1n 3 l7)) rfl) fun hl48 => o7 (.bool (decide ((i_28:Int) < (a_1.Cells.length:Int)))) rfl rfl rfl<|dk<|x9 rfl hq44<|a0e<|a0f<|o6<|a3c<|sr<|?_
     obtain ⟨x_49,ex50,hc1⟩:=ob hc1
     obtain ⟨r_51,er52,hc1⟩:=ob hc1
     refine o7 (.ptr 0 0 1) rfl trivial rfl<|o7 (.lst 1 (a_1.Cells.map (a1n 3 l7))) rfl nle rfl<|l9 (.int .i64 (i_28:Int)) rfl<|x8 (a1r (enc:=(a1n 3 l7)) rfl rfl hx41)<|o7 (.lst 3 (x_46.map l7)) rfl ⟨rfl,rfl⟩ rfl<|o7 (.ptr 1 0 1) rfl trivial rfl<|o7 (.lst 1 (b_2.Cells.map (a1n 3 l7))) rfl nle rfl<|l9 (.int .i64 (i_28:Int)) rfl<|x8 (a3l (enc:=(a1n 3 l7)) rfl rfl (a8m ex50) (a8n ex50))<|o7 (.lst 3 (x_49.map l7)) rfl ⟨rfl,rfl⟩ rfl<|a2j (a0g (c0t _ _ _ er52) rfl (.refl _) rfl) a6a trivial<|o7 (.bool (!r_51)) rfl trivial rfl<|dk<|?_
     rcases oi hc1 with ⟨c53,hc1⟩ | ⟨c53,hc1⟩
     ·refine x9 rfl c53<|sr<|l9 (.bool false) rfl<|dk<|a0a<|?_;obtain rfl:=os hc1;obtain rfl:=os hf;exact a0d ⟨trivial,trivial⟩ rfl (.refl _)
     ·refine y5 rfl (bf c53)<|a0e<|a2c<|a0f<|a0k<|l9 (.int .i64 (i_28:Int)) rfl<|o7 (.int .i64 (w64 ((i_28:Int) + 1))) rfl rfl rfl<|l9 (.int .i64 (w64 ((i_28:Int) + 1))) rfl<|y7<|?_;exact a1t ⟨(i_28 + 1),hc1⟩ (mul hlt40) ⟨[],[0,1],_,_,rfl,rfl,⟨.refl _,⟨.refl _,⟨.of_eq (congrArg (AV.int _) (a1w hlt40 hl48)),trivial⟩⟩⟩,(.refl _)⟩
   ·rintro ⟨_,rfl⟩
    refine sr<|l9 (.bool true) rfl<|dk<|a0a<|?_;obtain rfl:=os hf;exact a0d ⟨trivial,trivial⟩ rfl (.refl _)

/- impl.MutCode -/
def c38:a0n :=
 (.seq (.reg (tq 2 (.box 4 (.t 0)) (tq 3 (.box 3 (.t 1)) (tm 4 (.c (.int .i64 0)) (tm 5 (.c (.int .i64 0)) .done)))))
 (.seq (.seq (.reg (tq 6 (.load 4 true (.t 2)) (tq 7 (.call 132 [(.t 6)]) (tq 8 (.not (.t 7)) (tm 9 (.t 8) (tg 10 9 false (.load 3 true (.t 3)) (tg 11 9 false (.call 135 [(.t 10)]) (tg 12 9 false (.not (.t 11)) (tq 13 (.pick (.t 9) (.c (.bool true)) (.t 12)) .done)))))))))
 (.cut (.cond (.t 13) (.seq (.reg (tm 4 (.c (.int .i64 0)) (tm 5 (.c (.int .i64 1)) .done)))
 .ret)
 .skip)))
 (.seq (.reg (tq 14 (.load 4 true (.t 2)) (tq 15 (.load 3 true (.t 3)) (tq 16 (.call 136 [(.t 14),(.t 15)]) (tm 4 (.t 16) (tm 5 (.c (.int .i64 0)) .done))))))
 .ret)))
theorem e8k:a1c Tryz.prog Tryz.f38 = some (c38.erase,[.mov (.t 4),.mov (.t 5)],17):=by kernel_rfl
def b1q (t_1:a0w) (m_2:a2w):Option (Int × Int) :=
    (((a9j t_1).bind fun r_10 =>
    if (!r_10) then
    some true
    else
    (b1w m_2).bind fun r_13 =>
    some (!r_13):Option Bool)).bind fun s13_8 =>
    if s13_8 then
    some (0,1)
    else
    (a9k t_1 m_2).bind fun r_16 =>
    some (r_16,0)
theorem c4n (t_1:a0w) (m_2:a2w) (r:(Int × Int)) (hf:b1q t_1 m_2 = some r):y8 Tryz.prog 38 .flat [(a1b t_1),(a0c m_2)] (.tup [(.int .i64 r.1),(.int .i64 r.2)]):=by
 refine y8.of_awp mixed Tryz.func38 e8k nle ?_;rw [a0h];unfold b1q at hf;unfold c38;refine (show awp Tryz.prog false 0 _ (ofL [(0,(a1b t_1)),(1,(a0c m_2))]) [] _ from ?_);refine sr<|x8 (a1o (j:=0) (c:=(.agg [(.str t_1.Name),(.lst 8 (t_1.Columns.map o5)),(.lst 1 (t_1.Unique.map encI)),(.bool t_1.Root)])) rfl trivial rfl rfl)<|x8 (a1o (j:=1) (c:=(.agg [(.str m_2.Column),(.int .i64 m_2.Func),(.lst 3 (m_2.Value.map l7))])) rfl trivial rfl rfl)<|l9 (.int .i64 0) rfl<|l9 (.int .i64 0) rfl<|dk<|o6<|o6<|?_
 obtain ⟨s13_8,hb1,hf⟩:=ob hf
 refine a1k ([(2,(.ptr 0 0 0)),(3,(.ptr 1 0 0)),(13,(.bool s13_8))],[.box 4 (.agg [(.str t_1.Name),(.lst 8 (t_1.Columns.map o5)),(.lst 1 (t_1.Unique.map encI)),(.bool t_1.Root)]),.box 3 (.agg [(.str m_2.Column),(.int .i64 m_2.Func),(.lst 3 (m_2.Value.map l7))])]) ?_ ?_
 ·refine a0k ?_
  obtain ⟨r_10,er11,hb1⟩:=ob hb1
  rcases oi hb1 with ⟨c12,hb1⟩ | ⟨c12,hb1⟩
  ·refine o7 (.agg [(.str t_1.Name),(.lst 8 (t_1.Columns.map o5)),(.lst 1 (t_1.Unique.map encI)),(.bool t_1.Root)]) rfl nle rfl<|x8 (a0g (b3r _ _ er11) rfl (.refl _) rfl)<|o7 (.bool (!r_10)) rfl trivial rfl<|l9 (.bool (!r_10)) rfl<|a0u (s:=9) (b:=true) rfl c12<|o9 rfl rfl<|o9 rfl rfl<|o9 rfl rfl<|o7 (.bool true) rfl trivial rfl<|y7<|?_;obtain rfl:=os hb1;exact ⟨[],[0,1],_,_,rfl,rfl,⟨.refl _,⟨.refl _,⟨.refl _,trivial⟩⟩⟩,(.refl _)⟩
  ·obtain ⟨r_13,er14,hb1⟩:=ob hb1
   refine o7 (.agg [(.str t_1.Name),(.lst 8 (t_1.Columns.map o5)),(.lst 1 (t_1.Unique.map encI)),(.bool t_1.Root)]) rfl nle rfl<|x8 (a0g (b3r _ _ er11) rfl (.refl _) rfl)<|o7 (.bool (!r_10)) rfl trivial rfl<|l9 (.bool (!r_10)) rfl<|a0u (s:=9) (b:=false) rfl (bf c12)<|s_on rfl<|o7 (.agg [(.str m_2.Column),(.int .i64 m_2.Func),(.lst 3 (m_2.Value.map l7))]) rfl nle rfl<|s_on rfl<|x8 (a0g (b9e _ _ er14) rfl (.refl _) rfl)<|s_on rfl<|o7 (.bool (!r_13)) rfl trivial rfl<|o7 (.bool (!r_13)) rfl trivial rfl<|y7<|?_;obtain rfl:=os hb1;exact ⟨[],[0,1],_,_,rfl,rfl,⟨.refl _,⟨.refl _,⟨.refl _,trivial⟩⟩⟩,(.refl _)⟩
 ·rcases oi hf with ⟨c15,hf⟩ | ⟨c15,hf⟩
  ·refine x9 rfl c15<|sr<|l9 (.int .i64 0) rfl<|l9 (.int .i64 1) rfl<|dk<|a0a<|?_;obtain rfl:=os hf;exact a0d ⟨trivial,⟨trivial,trivial⟩⟩ rfl (.refl _)
  ·refine y5 rfl (bf c15)<|a0e<|a0f<|sr<|?_
   obtain ⟨r_16,er17,hf⟩:=ob hf
   refine o7 (.agg [(.str t_1.Name),(.lst 8 (t_1.Columns.map o5)),(.lst 1 (t_1.Unique.map encI)),(.bool t_1.Root)]) rfl nle rfl<|o7 (.agg [(.str m_2.Column),(.int .i64 m_2.Func),(.lst 3 (m_2.Value.map l7))]) rfl nle rfl<|x8 (a0g (b6h _ _ _ er17) rfl (.refl _) rfl)<|l9 (.int .i64 r_16) rfl<|l9 (.int .i64 0) rfl<|dk<|a0a<|?_;obtain rfl:=os hf;exact a0d ⟨trivial,⟨trivial,trivial⟩⟩ rfl (.refl _)

/- spec.MutCode -/
def c39:a0n :=
 (.seq (.reg (tq 2 (.box 4 (.t 0)) (tq 3 (.box 3 (.t 1)) (tm 4 (.c (.int .i64 0)) (tm 5 (.c (.int .i64 0)) .done)))))
 (.seq (.seq (.reg (tq 6 (.load 4 true (.t 2)) (tq 7 (.call 137 [(.t 6)]) (tq 8 (.not (.t 7)) (tm 9 (.t 8) (tg 10 9 false (.load 3 true (.t 3)) (tg 11 9 false (.call 138 [(.t 10)]) (tg 12 9 false (.not (.t 11)) (tq 13 (.pick (.t 9) (.c (.bool true)) (.t 12)) .done)))))))))
 (.cut (.cond (.t 13) (.seq (.reg (tm 4 (.c (.int .i64 0)) (tm 5 (.c (.int .i64 1)) .done)))
 .ret)
 .skip)))
 (.seq (.reg (tq 14 (.load 4 true (.t 2)) (tq 15 (.load 3 true (.t 3)) (tq 16 (.call 139 [(.t 14),(.t 15)]) (tm 4 (.t 16) (tm 5 (.c (.int .i64 0)) .done))))))
 .ret)))
theorem e8l:a1c Tryz.prog Tryz.f39 = some (c39.erase,[.mov (.t 4),.mov (.t 5)],17):=by kernel_rfl
def b1r (t_1:a0w) (m_2:a2w):Option (Int × Int) :=
    (((a8f t_1).bind fun r_10 =>
    if (!r_10) then
    some true
    else
    (b1z m_2).bind fun r_13 =>
    some (!r_13):Option Bool)).bind fun s13_8 =>
    if s13_8 then
    some (0,1)
    else
    (a9p t_1 m_2).bind fun r_16 =>
    some (r_16,0)
theorem c4o (t_1:a0w) (m_2:a2w) (r:(Int × Int)) (hf:b1r t_1 m_2 = some r):y8 Tryz.prog 39 .flat [(a1b t_1),(a0c m_2)] (.tup [(.int .i64 r.1),(.int .i64 r.2)]):=by
 refine y8.of_awp mixed Tryz.func39 e8l nle ?_;rw [a0h];unfold b1r at hf;unfold c39;refine (show awp Tryz.prog false 0 _ (ofL [(0,(a1b t_1)),(1,(a0c m_2))]) [] _ from ?_);refine sr<|x8 (a1o (j:=0) (c:=(.agg [(.str t_1.Name),(.lst 8 (t_1.Columns.map o5)),(.lst 1 (t_1.Unique.map encI)),(.bool t_1.Root)])) rfl trivial rfl rfl)<|x8 (a1o (j:=1) (c:=(.agg [(.str m_2.Column),(.int .i64 m_2.Func),(.lst 3 (m_2.Value.map l7))])) rfl trivial rfl rfl)<|l9 (.int .i64 0) rfl<|l9 (.int .i64 0) rfl<|dk<|o6<|o6<|?_
 obtain ⟨s13_8,hb1,hf⟩:=ob hf
 refine a1k ([(2,(.ptr 0 0 0)),(3,(.ptr 1 0 0)),(13,(.bool s13_8))],[.box 4 (.agg [(.str t_1.Name),(.lst 8 (t_1.Columns.map o5)),(.lst 1 (t_1.Unique.map encI)),(.bool t_1.Root)]),.box 3 (.agg [(.str m_2.Column),(.int .i64 m_2.Func),(.lst 3 (m_2.Value.map l7))])]) ?_ ?_
 ·refine a0k ?_
  obtain ⟨r_10,er11,hb1⟩:=ob hb1
  rcases oi hb1 with ⟨c12,hb1⟩ | ⟨c12,hb1⟩
  ·refine o7 (.agg [(.str t_1.Name),(.lst 8 (t_1.Columns.map o5)),(.lst 1 (t_1.Unique.map encI)),(.bool t_1.Root)]) rfl nle rfl<|x8 (a0g (b0i _ _ er11) rfl (.refl _) rfl)<|o7 (.bool (!r_10)) rfl trivial rfl<|l9 (.bool (!r_10)) rfl<|a0u (s:=9) (b:=true) rfl c12<|o9 rfl rfl<|o9 rfl rfl<|o9 rfl rfl<|o7 (.bool true) rfl trivial rfl<|y7<|?_;obtain rfl:=os hb1;exact ⟨[],[0,1],_,_,rfl,rfl,⟨.refl _,⟨.refl _,⟨.refl _,trivial⟩⟩⟩,(.refl _)⟩
  ·obtain ⟨r_13,er14,hb1⟩:=ob hb1
   refine o7 (.agg [(.str t_1.Name),(.lst 8 (t_1.Columns.map o5)),(.lst 1 (t_1.Unique.map encI)),(.bool t_1.Root)]) rfl nle rfl<|x8 (a0g (b0i _ _ er11) rfl (.refl _) rfl)<|o7 (.bool (!r_10)) rfl trivial rfl<|l9 (.bool (!r_10)) rfl<|a0u (s:=9) (b:=false) rfl (bf c12)<|s_on rfl<|o7 (.agg [(.str m_2.Column),(.int .i64 m_2.Func),(.lst 3 (m_2.Value.map l7))]) rfl nle rfl<|s_on rfl<|x8 (a0g (b9i _ _ er14) rfl (.refl _) rfl)<|s_on rfl<|o7 (.bool (!r_13)) rfl trivial rfl<|o7 (.bool (!r_13)) rfl trivial rfl<|y7<|?_;obtain rfl:=os hb1;exact ⟨[],[0,1],_,_,rfl,rfl,⟨.refl _,⟨.refl _,⟨.refl _,trivial⟩⟩⟩,(.refl _)⟩
 ·rcases oi hf with ⟨c15,hf⟩ | ⟨c15,hf⟩
  ·refine x9 rfl c15<|sr<|l9 (.int .i64 0) rfl<|l9 (.int .i64 1) rfl<|dk<|a0a<|?_;obtain rfl:=os hf;exact a0d ⟨trivial,⟨trivial,trivial⟩⟩ rfl (.refl _)
  ·refine y5 rfl (bf c15)<|a0e<|a0f<|sr<|?_
   obtain ⟨r_16,er17,hf⟩:=ob hf
   refine o7 (.agg [(.str t_1.Name),(.lst 8 (t_1.Columns.map o5)),(.lst 1 (t_1.Unique.map encI)),(.bool t_1.Root)]) rfl nle rfl<|o7 (.agg [(.str m_2.Column),(.int .i64 m_2.Func),(.lst 3 (m_2.Value.map l7))]) rfl nle rfl<|x8 (a0g (b6k _ _ _ er17) rfl (.refl _) rfl)<|l9 (.int .i64 r_16) rfl<|l9 (.int .i64 0) rfl<|dk<|a0a<|?_;obtain rfl:=os hf;exact a0d ⟨trivial,⟨trivial,trivial⟩⟩ rfl (.refl _)

/- impl.mutWords -/
def c141:a0n :=
 (.seq (.reg (tm 0 (.c .nil) .done))
 (.seq (.reg (tq 1 (.bslice 1 [(.c (.str [43,61])),(.c (.str [45,61])),(.c (.str [42,61])),(.c (.str [47,61])),(.c (.str [37,61])),(.c (.str [105,110,115,101,114,116])),(.c (.str [100,101,108,101,116,101]))]) (tm 0 (.t 1) .done)))
 .ret))
theorem e7j:a1c Tryz.prog Tryz.f141 = some (c141.erase,[.mov (.t 0)],2):=by kernel_rfl
def b2h :Option (List Str) :=
    some [[43,61],[45,61],[42,61],[47,61],[37,61],[105,110,115,101,114,116],[100,101,108,101,116,101]]
theorem b5s  (r:(List Str)) (hf:b2h = some r):y8 Tryz.prog 141 .fresh [] (.lst 1 (r.map AV.str)):=by
  refine y8.of_awp mixed Tryz.func141 e7j nle ?_
  rw [a0h]
  unfold b2h at hf
  unfold c141
  refine (show awp Tryz.prog true 0 _ (ofL []) [] _ from ?_)
  refine o6 ?_
  refine a0k ?_
  refine x8 (a2r .nil rfl) ?_
  refine y7 ?_
  refine a0f ?_
  refine o6 ?_
  refine a0k ?_
  refine x8 (a1z (j:=0) (as':=[(.str [43,61]),(.str [45,61]),(.str [42,61]),(.str [47,61]),(.str [37,61]),(.str [105,110,115,101,114,116]),(.str [100,101,108,101,116,101])]) rfl (fun _ => by decide) ⟨rfl,⟨rfl,⟨rfl,⟨rfl,⟨rfl,⟨rfl,⟨rfl,trivial⟩⟩⟩⟩⟩⟩⟩ (.refl _) rfl rfl rfl) ?_
  refine x8 (a2r (.own 0 0 7) rfl) ?_
  refine y7 ?_
  refine a0f ?_
  refine a0a ?_
  obtain rfl:=os hf
  exact a4r ⟨trivial,trivial⟩ rfl (by decide) (.refl _)

/- impl.wordAt -/
def e7k:a0n :=
 (.seq (.reg (tm 4 (.c (.str [])) .done))
 (.seq (.seq (.reg (tm 5 (.t 1) (tm 6 (.t 0) (tq 7 (.len (.t 6)) (tq 8 (.call 114 [(.t 5),(.c (.int .i64 1)),(.t 7)]) (tq 9 (.not (.t 8)) .done))))))
 (.cond (.t 9) (.seq (.reg (tm 4 (.c (.str [])) .done))
 .ret)
 .skip))
 (.seq (.reg (tm 10 (.t 0) (tm 11 (.t 1) (tq 12 (.bin .sub (.t 11) (.c (.int .i64 1))) (tq 13 (.iaddr 1 (.t 10) (.t 12)) (tq 14 (.load 1 false (.t 13)) (tm 4 (.t 14) .done)))))))
 .ret)))
theorem e7l:a1c Tryz.prog Tryz.f142 = some (e7k.erase,[.mov (.t 4)],15):=by kernel_rfl
def b6l (words_1:(List Str)) (n_2:Int):Option Str :=
    (a3v n_2 1 (words_1.length:Int)).bind fun r_4 =>
    if (!r_4) then
    some []
    else
    (idx words_1 (w64 (n_2 - 1))).bind fun x_7 =>
    some x_7
theorem c5v (words_1:(List Str)) (n_2:Int) (r:Str) (hf:b6l words_1 n_2 = some r):y8 Tryz.prog 142 .flat [(.lst 1 (words_1.map AV.str)),(.int .i64 n_2)] (.str r):=by
 refine y8.of_awp mixed Tryz.func142 e7l nle ?_;rw [a0h];unfold b6l at hf;unfold e7k;refine (show awp Tryz.prog false 0 _ (ofL [(0,(.lst 1 (words_1.map AV.str))),(1,(.int .i64 n_2))]) [] _ from ?_);refine sr<|l9 (.str []) rfl<|dk<|o6<|sr<|?_
 obtain ⟨r_4,er5,hf⟩:=ob hf
 refine l9 (.int .i64 n_2) rfl<|l9 (.lst 1 (words_1.map AV.str)) rfl<|a1e (a1p (enc:=AV.str) rfl) fun hl3 => x8 (a0g (a3y _ _ _ _ er5) rfl (.refl _) rfl)<|o7 (.bool (!r_4)) rfl trivial rfl<|dk<|?_
 rcases oi hf with ⟨c6,hf⟩ | ⟨c6,hf⟩
 ·refine x9 rfl c6<|sr<|l9 (.str []) rfl<|dk<|a0a<|?_;obtain rfl:=os hf;exact a0d ⟨trivial,trivial⟩ rfl (.refl _)
 ·refine y5 rfl (bf c6)<|a0e<|a0f<|sr<|?_
  obtain ⟨x_7,ex8,hf⟩:=ob hf
  refine l9 (.lst 1 (words_1.map AV.str)) rfl<|l9 (.int .i64 n_2) rfl<|o7 (.int .i64 (w64 (n_2 - 1))) rfl rfl rfl<|x8 (a3l (enc:=AV.str) rfl rfl (a8m ex8) (a8n ex8))<|o7 (.str x_7) rfl ⟨rfl,rfl⟩ rfl<|l9 (.str x_7) rfl<|dk<|a0a<|?_;obtain rfl:=os hf;exact a0d ⟨trivial,trivial⟩ rfl (.refl _)

/- impl.MutWord -/
def c41:a0n :=
 (.seq (.reg (tm 2 (.c (.str [])) .done))
 (.seq (.reg (tq 3 (.call 141 []) (tm 4 (.t 0) (tq 5 (.call 142 [(.t 3),(.t 4)]) (tm 2 (.t 5) .done)))))
 .ret))
theorem e8m:a1c Tryz.prog Tryz.f41 = some (c41.erase,[.mov (.t 2)],6):=by kernel_rfl
def b3e (n_1:Int):Option Str :=
    (b2h).bind fun r_2 =>
    (b6l r_2 n_1).bind fun r_4 =>
    some r_4
theorem c4p (n_1:Int) (r:Str) (hf:b3e n_1 = some r):y8 Tryz.prog 41 .flat [(.int .i64 n_1)] (.str r):=by
  refine y8.of_awp mixed Tryz.func41 e8m nle ?_
  rw [a0h]
  unfold b3e at hf
  unfold c41
  refine (show awp Tryz.prog false 0 _ (ofL [(0,(.int .i64 n_1))]) [] _ from ?_)
  refine o6 ?_
  refine a0k ?_
  refine x8 (a2r (.str []) rfl) ?_
  refine y7 ?_
  refine a0f ?_
  refine o6 ?_
  refine a0k ?_
  obtain ⟨r_2,er3,hf⟩:=ob hf
  obtain ⟨r_4,er5,hf⟩:=ob hf
  refine x8 (b2e rfl (b5s _ er3) rfl (.refl _) rfl) ?_
  refine x8 (a2r (.int .i64 n_1) rfl) ?_
  refine x8 (a0g (c5v _ _ _ er5) rfl (.refl _) rfl) ?_
  refine x8 (a2r (.str r_4) rfl) ?_
  refine y7 ?_
  refine a0f ?_
  refine a0a ?_
  obtain rfl:=os hf
  exact a0d ⟨trivial,trivial⟩ rfl (.refl _)

/- slices.Index[[]string,string] -/
def e7m:a0n :=
 (.seq (.reg (tm 4 (.c (.int .i64 0)) .done))
 (.seq (.seq (.reg (tm 6 (.t 0) (tq 7 (.len (.t 6)) (tm 8 (.c (.int .i64 0)) .done))))
 (.block 0 (.loop (.seq (.reg (tq 9 (.bin .lss (.t 8) (.t 7)) .done))
 (.seq (.cond (.t 9) .skip
 (.exit 0))
 (.seq (.block 1 (.seq (.reg (tm 10 (.t 8) (tm 5 (.t 10) .done)))
 (.seq (.reg (tm 11 (.t 1) (tm 12 (.t 0) (tm 13 (.t 5) (tq 14 (.iaddr 1 (.t 12) (.t 13)) (tq 15 (.load 1 false (.t 14)) (tq 16 (.bin .eql (.t 11) (.t 15)) .done)))))))
 (.cond (.t 16) (.seq (.reg (tm 17 (.t 5) (tm 4 (.t 17) .done)))
 .ret)
 .skip))))
 (.reg (tq 18 (.bin .add (.t 8) (.c (.int .i64 1))) (tm 8 (.t 18) .done)))))))))
 (.cut (.seq (.reg (tq 4 (.mov (.c (.int .i64 (-1)))) .done))
 .ret))))
theorem e7n:a1c Tryz.prog Tryz.f262 = some (e7m.erase,[.mov (.t 4)],19):=by kernel_rfl
def a3d (v_2:Str):List Str → Nat → Option (Fl Int Unit)
  | [],s8_13 =>
    some (.go ())
  | x_25 :: xs,s8_13 =>
    if (v_2 == x_25) then
    some (.ret (s8_13:Int))
    else
    a3d v_2 xs (s8_13 + 1)

def a6x (s_1:(List Str)) (v_2:Str):Option Int :=
    (a3d v_2 s_1 0).bind fun q => (match q with
    | .ret r => some r
    | .go _ =>
    some (-1))
theorem b2w (s_1:(List Str)) (v_2:Str) (r:Int) (hf:a6x s_1 v_2 = some r):y8 Tryz.prog 262 .flat [(.lst 1 (s_1.map AV.str)),(.str v_2)] (.int .i64 r):=by
 refine y8.of_awp mixed Tryz.func262 e7n nle ?_;rw [a0h];unfold a6x at hf;unfold e7m;refine (show awp Tryz.prog false 0 _ (ofL [(0,(.lst 1 (s_1.map AV.str))),(1,(.str v_2))]) [] _ from ?_);refine sr<|l9 (.int .i64 0) rfl<|dk<|o6<|sr<|l9 (.lst 1 (s_1.map AV.str)) rfl<|a1e (a1p (enc:=AV.str) rfl) fun hl3 => l9 (.int .i64 0) rfl<|dk<|?_
 obtain ⟨p18,hb1,hf⟩:=ob hf
 refine a2i (X:={q:Unit // p18 = .go q}) (fun q => ([],[])) ?_ ?_
 ·refine a1m (X:={q:Nat // a3d v_2 (s_1.drop q) q = some p18}) (fun q => ([(0,(.lst 1 (s_1.map AV.str))),(1,(.str v_2)),(7,(.int .i64 (s_1.length:Int))),(8,(.int .i64 (q.1:Int)))],[])) (fun q => s_1.length - q.1) ⟨0,hb1⟩ ⟨[],[],_,_,rfl,rfl,⟨.refl _,⟨.refl _,⟨.refl _,⟨.refl _,trivial⟩⟩⟩⟩,(.refl _)⟩ ?_
  rintro ⟨s8_13,hc1⟩
  have hc1:a3d v_2 (s_1.drop s8_13) s8_13 = some p18:=hc1
  refine (show awp Tryz.prog false 0 _ (ofL [(0,(.lst 1 (s_1.map AV.str))),(1,(.str v_2)),(7,(.int .i64 (s_1.length:Int))),(8,(.int .i64 (s8_13:Int)))]) [] _ from ?_)
  rcases a5p s_1 s8_13 with ⟨hie21,hd24⟩ | ⟨hlt19,x_25,hx20,hd24⟩
  ·rw [hd24,a3d.eq_1] at hc1
   have hq23:=dlf hie21
   refine sr<|o7 (.bool (decide ((s8_13:Int) < (s_1.length:Int)))) rfl rfl rfl<|dk<|o6<|y5 rfl hq23<|a2u<|a2t<|a1x<|a2s<|?_;obtain rfl:=os hc1;exact a3h ⟨_,rfl⟩ ⟨[],[],_,_,rfl,rfl,trivial,(.refl _)⟩
  ·rw [hd24,a3d.eq_2] at hc1
   have hq23:=dlt hlt19
   refine sr<|o7 (.bool (decide ((s8_13:Int) < (s_1.length:Int)))) rfl rfl rfl<|dk<|o6<|x9 rfl hq23<|a0e<|a0f<|o6<|a3c<|sr<|l9 (.int .i64 (s8_13:Int)) rfl<|l9 (.int .i64 (s8_13:Int)) rfl<|dk<|sr<|l9 (.str v_2) rfl<|l9 (.lst 1 (s_1.map AV.str)) rfl<|l9 (.int .i64 (s8_13:Int)) rfl<|x8 (a1r (enc:=AV.str) rfl rfl hx20)<|o7 (.str x_25) rfl ⟨rfl,rfl⟩ rfl<|o7 (.bool (v_2 == x_25)) rfl trivial rfl<|dk<|?_
   rcases oi hc1 with ⟨c26,hc1⟩ | ⟨c26,hc1⟩
   ·refine x9 rfl c26<|sr<|l9 (.int .i64 (s8_13:Int)) rfl<|l9 (.int .i64 (s8_13:Int)) rfl<|dk<|a0a<|?_;obtain rfl:=os hc1;obtain rfl:=os hf;exact a0d ⟨trivial,trivial⟩ rfl (.refl _)
   ·refine y5 rfl (bf c26)<|a0e<|a2c<|a0f<|a0k<|o7 (.int .i64 (w64 ((s8_13:Int) + 1))) rfl rfl rfl<|l9 (.int .i64 (w64 ((s8_13:Int) + 1))) rfl<|y7<|?_;exact a1t ⟨(s8_13 + 1),hc1⟩ (mul hlt19) ⟨[],[],_,_,rfl,rfl,⟨.refl _,⟨.refl _,⟨.refl _,⟨.of_eq (congrArg (AV.int _) (a1w hlt19 hl3)),trivial⟩⟩⟩⟩,(.refl _)⟩
 ·rintro ⟨_,rfl⟩
  refine sr<|l9 (.int .i64 (-1)) rfl<|dk<|a0a<|?_;obtain rfl:=os hf;exact a0d ⟨trivial,trivial⟩ rfl (.refl _)

/- impl.placeOf -/
def e7o:a0n :=
 (.seq (.reg (tm 4 (.c (.int .i64 0)) .done))
 (.seq (.reg (tm 5 (.t 0) (tm 6 (.t 1) (tq 7 (.call 262 [(.t 5),(.t 6)]) (tq 8 (.bin .add (.t 7) (.c (.int .i64 1))) (tm 4 (.t 8) .done))))))
 .ret))
theorem e7p:a1c Tryz.prog Tryz.f140 = some (e7o.erase,[.mov (.t 4)],9):=by kernel_rfl
def b5i (words_1:(List Str)) (word_2:Str):Option Int :=
    (a6x words_1 word_2).bind fun r_3 =>
    some (w64 (r_3 + 1))
theorem c4q (words_1:(List Str)) (word_2:Str) (r:Int) (hf:b5i words_1 word_2 = some r):y8 Tryz.prog 140 .flat [(.lst 1 (words_1.map AV.str)),(.str word_2)] (.int .i64 r):=by
  refine y8.of_awp mixed Tryz.func140 e7p nle ?_
  rw [a0h]
  unfold b5i at hf
  unfold e7o
  refine (show awp Tryz.prog false 0 _ (ofL [(0,(.lst 1 (words_1.map AV.str))),(1,(.str word_2))]) [] _ from ?_)
  refine o6 ?_
  refine a0k ?_
  refine x8 (a2r (.int .i64 0) rfl) ?_
  refine y7 ?_
  refine a0f ?_
  refine o6 ?_
  refine a0k ?_
  obtain ⟨r_3,er4,hf⟩:=ob hf
  refine x8 (a2r (.lst 1 (words_1.map AV.str)) rfl) ?_
  refine x8 (a2r (.str word_2) rfl) ?_
  refine x8 (a0g (b2w _ _ _ er4) rfl (.refl _) rfl) ?_
  refine x8 (o_q (.int .i64 (w64 (r_3 + 1))) rfl rfl rfl) ?_
  refine x8 (a2r (.int .i64 (w64 (r_3 + 1))) rfl) ?_
  refine y7 ?_
  refine a0f ?_
  refine a0a ?_
  obtain rfl:=os hf
  exact a0d ⟨trivial,trivial⟩ rfl (.refl _)

/- impl.MutOf -/
def c40:a0n :=
 (.seq (.reg (tm 2 (.c (.int .i64 0)) .done))
 (.seq (.reg (tq 3 (.call 141 []) (tm 4 (.t 0) (tq 5 (.call 140 [(.t 3),(.t 4)]) (tm 2 (.t 5) .done)))))
 .ret))
theorem e8n:a1c Tryz.prog Tryz.f40 = some (c40.erase,[.mov (.t 2)],6):=by kernel_rfl
def b5j (word_1:Str):Option Int :=
    (b2h).bind fun r_2 =>
    (b5i r_2 word_1).bind fun r_4 =>
    some r_4
theorem c8k (word_1:Str) (r:Int) (hf:b5j word_1 = some r):y8 Tryz.prog 40 .flat [(.str word_1)] (.int .i64 r):=by
  refine y8.of_awp mixed Tryz.func40 e8n nle ?_
  rw [a0h]
  unfold b5j at hf
  unfold c40
  refine (show awp Tryz.prog false 0 _ (ofL [(0,(.str word_1))]) [] _ from ?_)
  refine o6 ?_
  refine a0k ?_
  refine x8 (a2r (.int .i64 0) rfl) ?_
  refine y7 ?_
  refine a0f ?_
  refine o6 ?_
  refine a0k ?_
  obtain ⟨r_2,er3,hf⟩:=ob hf
  obtain ⟨r_4,er5,hf⟩:=ob hf
  refine x8 (b2e rfl (b5s _ er3) rfl (.refl _) rfl) ?_
  refine x8 (a2r (.str word_1) rfl) ?_
  refine x8 (a0g (c4q _ _ _ er5) rfl (.refl _) rfl) ?_
  refine x8 (a2r (.int .i64 r_4) rfl) ?_
  refine y7 ?_
  refine a0f ?_
  refine a0a ?_
  obtain rfl:=os hf
  exact a0d ⟨trivial,trivial⟩ rfl (.refl _)

/- laws.FnMuts -/
def c5:a0n :=
 (.seq (.reg (tm 4 (.c (.bool false)) .done))
 (.seq (.seq (.reg (tm 21 (.t 0) (tq 22 (.len (.t 21)) (tq 23 (.bin .gtr (.t 22) (.c (.int .i64 1048576))) (tm 24 (.t 23) (tg 25 24 false (.mov (.t 1)) (tg 26 24 false (.len (.t 25)) (tg 27 24 false (.bin .gtr (.t 26) (.c (.int .i64 1048576))) (tq 28 (.pick (.t 24) (.c (.bool true)) (.t 27)) .done)))))))))
 (.cut (.cond (.t 28) (.seq (.reg (tm 4 (.c (.bool true)) .done))
 .ret)
 .skip)))
 (.seq (.reg (tm 29 (.t 1) (tq 30 (.call 31 [(.t 29),(.c (.int .i64 0)),(.c (.int .i64 3))]) (tm 5 (.t 30) .done))))
 (.seq (.reg (tq 31 (.call 25 []) (tq 32 (.field 0 1 false (.t 31)) (tm 33 (.t 5) (tq 34 (.iaddr 4 (.t 32) (.t 33)) (tq 35 (.load 4 true (.t 34)) (tq 6 (.box 4 (.c (.agg [(.str []),.nil,.nil,(.bool false)]))) (.q ⟨none,none,.store 4 (.t 6) (.t 35)⟩
 .done))))))))
 (.seq (.reg (tq 36 (.faddr 1 (.t 6)) (tq 37 (.load 1 false (.t 36)) (tq 38 (.len (.t 37)) (tq 39 (.mkslice 1 24 .nil (.t 38) (.t 38)) (tq 40 (.build [(.int .i64 0),.nil] [(0,1,(.c (.int .i64 5))),(1,1,(.t 39))]) (tq 7 (.box 2 (.c (.agg [(.int .i64 0),.nil]))) (.q ⟨none,none,.store 2 (.t 7) (.t 40)⟩
 .done))))))))
 (.seq (.seq (.reg (tm 8 (.c (.int .i64 0)) .done))
 (.block 0 (.loop (.seq (.seq (.reg (tm 41 (.t 8) (tq 42 (.faddr 1 (.t 6)) (tq 43 (.load 1 false (.t 42)) (tq 44 (.len (.t 43)) (tq 45 (.bin .lss (.t 41) (.t 44)) .done))))))
 (.cond (.t 45) .skip
 (.exit 0)))
 (.seq (.block 1 (.seq (.reg (tq 49 (.faddr 1 (.t 6)) (tq 50 (.load 1 false (.t 49)) (tm 51 (.t 8) (tq 52 (.iaddr 8 (.t 50) (.t 51)) (tq 53 (.load 8 true (.t 52)) (tq 54 (.call 32 [(.t 53)]) (tm 48 (.t 54) (tq 55 (.extract 0 (.t 48)) (tq 56 (.extract 1 (.t 48)) (tm 9 (.t 55) (tm 10 (.t 56) .done))))))))))))
 (.seq (.seq (.reg (tm 57 (.t 10) (tq 58 (.bin .neq (.t 57) (.c (.int .i64 0))) .done)))
 (.cond (.t 58) (.seq (.reg (tm 4 (.c (.bool false)) .done))
 .ret)
 .skip))
 (.reg (tq 59 (.faddr 1 (.t 7)) (tq 60 (.load 1 false (.t 59)) (tm 61 (.t 8) (tm 62 (.t 9) (tq 63 (.iaddr 1 (.t 60) (.t 61)) (.q ⟨none,none,.store 1 (.t 63) (.t 62)⟩
 .done))))))))))
 (.reg (tm 46 (.t 8) (tq 47 (.bin .add (.t 46) (.c (.int .i64 1))) (tm 8 (.t 47) .done)))))))))
 (.cut (.seq (.reg (tm 64 (.t 0) (tm 65 (.t 5) (tq 66 (.call 33 [(.t 64),(.t 65)]) (tm 11 (.t 66) .done)))))
 (.seq (.rev (.reg (tq 68 (.load 4 true (.t 6)) (tq 69 (.load 2 true (.t 7)) (tm 70 (.t 11) (tq 71 (.call 34 [(.t 68),(.t 69),(.t 70)]) (tm 67 (.t 71) (tq 72 (.extract 0 (.t 67)) (tq 73 (.extract 1 (.t 67)) (tq 12 (.box 2 (.c (.agg [(.int .i64 0),.nil]))) (.q ⟨none,none,.store 2 (.t 12) (.t 72)⟩
 (tm 13 (.t 73) .done))))))))))))
 (.seq (.reg (tq 75 (.load 4 true (.t 6)) (tq 76 (.load 2 true (.t 7)) (tm 77 (.t 11) (tq 78 (.call 35 [(.t 75),(.t 76),(.t 77)]) (tm 74 (.t 78) (tq 79 (.extract 0 (.t 74)) (tq 80 (.extract 1 (.t 74)) (tq 14 (.box 2 (.c (.agg [(.int .i64 0),.nil]))) (.q ⟨none,none,.store 2 (.t 14) (.t 79)⟩
 (tm 15 (.t 80) .done)))))))))))
 (.seq (.seq (.reg (tm 81 (.t 13) (tm 82 (.t 15) (tq 83 (.bin .neq (.t 81) (.t 82)) (tm 84 (.t 83) (tg 85 84 false (.load 2 true (.t 12)) (tg 86 84 false (.load 2 true (.t 14)) (tg 87 84 false (.call 36 [(.t 85),(.t 86)]) (tg 88 84 false (.not (.t 87)) (tq 89 (.pick (.t 84) (.c (.bool true)) (.t 88)) (tm 90 (.t 89) (tg 91 90 false (.load 4 true (.t 6)) (tg 92 90 false (.load 2 true (.t 7)) (tg 93 90 false (.call 37 [(.t 91),(.t 92)]) (tg 94 90 false (.not (.t 93)) (tq 95 (.pick (.t 90) (.c (.bool true)) (.t 94)) .done))))))))))))))))
 (.cut (.cond (.t 95) (.seq (.reg (tm 4 (.c (.bool false)) .done))
 .ret)
 .skip)))
 (.seq (.seq (.reg (tm 16 (.c (.int .i64 0)) .done))
 (.block 2 (.loop (.seq (.seq (.reg (tm 96 (.t 16) (tm 97 (.t 11) (tq 98 (.len (.t 97)) (tq 99 (.bin .lss (.t 96) (.t 98)) .done)))))
 (.cond (.t 99) .skip
 (.exit 2)))
 (.seq (.block 3 (.seq (.reg (tq 103 (.load 4 true (.t 6)) (tm 104 (.t 11) (tm 105 (.t 16) (tq 106 (.iaddr 3 (.t 104) (.t 105)) (tq 107 (.load 3 true (.t 106)) (.l ⟨(some 108),none,.call 38 [(.t 103),(.t 107)]⟩ []
 (tm 102 (.t 108) (tq 109 (.extract 0 (.t 102)) (tq 110 (.extract 1 (.t 102)) (tm 17 (.t 109) (tm 18 (.t 110) .done))))) .non)))))))
 (.seq (.reg (tq 112 (.load 4 true (.t 6)) (tm 113 (.t 11) (tm 114 (.t 16) (tq 115 (.iaddr 3 (.t 113) (.t 114)) (tq 116 (.load 3 true (.t 115)) (.l ⟨(some 117),none,.call 39 [(.t 112),(.t 116)]⟩ []
 (tm 111 (.t 117) (tq 118 (.extract 0 (.t 111)) (tq 119 (.extract 1 (.t 111)) (tm 19 (.t 118) (tm 20 (.t 119) .done))))) .non)))))))
 (.seq (.reg (tm 120 (.t 18) (tq 121 (.bin .neq (.t 120) (.c (.int .i64 0))) (tm 122 (.t 121) (tg 123 122 false (.mov (.t 17)) (tg 124 122 false (.mov (.t 19)) (tg 125 122 false (.bin .neq (.t 123) (.t 124)) (tq 126 (.pick (.t 122) (.c (.bool true)) (.t 125)) (tm 127 (.t 126) (tg 128 127 false (.mov (.t 11)) (tg 129 127 false (.mov (.t 16)) (tg 130 127 false (.iaddr 3 (.t 128) (.t 129)) (tg 131 127 false (.faddr 1 (.t 130)) (tg 132 127 false (.load 1 false (.t 131)) (tg 135 127 false (.mov (.t 11)) (tg 136 127 false (.mov (.t 16)) (tg 137 127 false (.iaddr 3 (.t 135) (.t 136)) (tg 138 127 false (.faddr 1 (.t 137)) (tg 139 127 false (.load 1 false (.t 138)) (.l ⟨(some 133),(some (127,false)),.call 41 [(.t 132)]⟩ [⟨(some 139),(some (127,false)),.load 1 false (.t 138)⟩,⟨(some 138),(some (127,false)),.faddr 1 (.t 137)⟩,⟨(some 137),(some (127,false)),.iaddr 3 (.t 135) (.t 136)⟩]
 (.l ⟨(some 134),(some (127,false)),.call 40 [(.t 133)]⟩ [⟨(some 139),(some (127,false)),.load 1 false (.t 138)⟩,⟨(some 138),(some (127,false)),.faddr 1 (.t 137)⟩,⟨(some 137),(some (127,false)),.iaddr 3 (.t 135) (.t 136)⟩]
 (tg 140 127 false (.bin .neq (.t 134) (.t 139)) (tq 141 (.pick (.t 127) (.c (.bool true)) (.t 140)) .done)) .non) .non))))))))))))))))))))
 (.cut (.cond (.t 141) (.seq (.reg (tm 4 (.c (.bool false)) .done))
 .ret)
 .skip))))))
 (.reg (tm 100 (.t 16) (tq 101 (.bin .add (.t 100) (.c (.int .i64 1))) (tm 16 (.t 101) .done)))))))))
 (.cut (.seq (.reg (tm 142 (.t 13) (tq 143 (.bin .neq (.t 142) (.c (.int .i64 0))) (tm 144 (.t 143) (tg 145 144 false (.load 4 true (.t 6)) (tg 146 144 false (.load 2 true (.t 12)) (tg 147 144 false (.call 37 [(.t 145),(.t 146)]) (tg 148 144 false (.mov (.t 147)) (tg 149 148 true (.faddr 0 (.t 12)) (tg 150 148 true (.load 1 false (.t 149)) (tg 151 148 true (.bin .eql (.t 150) (.c (.int .i64 5))) (tg 152 144 false (.pick (.t 148) (.t 151) (.c (.bool false))) (tq 153 (.pick (.t 144) (.c (.bool true)) (.t 152)) (tm 4 (.t 153) .done))))))))))))))
 .ret))))))))))))))
theorem fc5:a1c Tryz.prog Tryz.f5 = some (c5.erase,[.mov (.t 4)],154):=by kernel_rfl
def a5w :List a0m → Nat → (List (List o8)) → Option (Fl Bool (List (List o8)))
  | [],i_42,x_43 =>
    some (.go x_43)
  | x_63 :: xs,i_42,x_43 =>
    (a8u x_63).bind fun r_66 =>
    if (r_66.2 != 0) then
    some (.ret false)
    else
    if i_42 < x_43.length then
    (x_43[i_42]?).bind fun x_70 =>
    a5w xs (i_42 + 1) (x_43.set i_42 r_66.1)
    else none

def a5x (x_16:a0w):List a2w → Option (Fl Bool Unit)
  | [] =>
    some (.go ())
  | x_198 :: xs =>
    (b1q x_16 x_198).bind fun r_201 =>
    (b1r x_16 x_198).bind fun r_203 =>
    ((if (bif (r_201.2 != 0) then true else (r_201.1 != r_203.1)) then
    some true
    else
    (b3e x_198.Func).bind fun r_213 =>
    (b5j r_213).bind fun r_215 =>
    some (r_215 != x_198.Func):Option Bool)).bind fun s141_210 =>
    if s141_210 then
    some (.ret false)
    else
    a5x x_16 xs 

def b4b (code_1:(List Int)) (more_2:(List Int)):Option Bool :=
    ((if (decide ((code_1.length:Int) > 1048576)) then
    some true
    else
    some (decide ((more_2.length:Int) > 1048576)):Option Bool)).bind fun s28_6 =>
    if s28_6 then
    some true
    else
    (b9a more_2 0 3).bind fun r_12 =>
    (a7o).bind fun r_14 =>
    (idx r_14.Tables r_12).bind fun x_16 =>
    if (x_16.Columns.length:Int) ≤ 2 ^ 30 then
    (a5w x_16.Columns 0 (List.replicate x_16.Columns.length [])).bind fun q => (match q with
    | .ret r => some r
    | .go x_55 =>
    (b2n code_1 r_12).bind fun r_72 =>
    (a8y x_16 (⟨5,x_55⟩:a4p) r_72).bind fun r_76 =>
    (a9c x_16 (⟨5,x_55⟩:a4p) r_72).bind fun r_78 =>
    ((if (r_76.2 != r_78.2) then
    some true
    else
    (b1p r_76.1 r_78.1).bind fun r_89 =>
    if (!r_89) then
    some true
    else
    (b0l x_16 (⟨5,x_55⟩:a4p)).bind fun r_92 =>
    some (!r_92):Option Bool)).bind fun s95_86 =>
    if s95_86 then
    some false
    else
    (a5x x_16 r_72 ).bind fun q => (match q with
    | .ret r => some r
    | .go _ =>
    if (r_76.2 != 0) then
    some true
    else
    (b0l x_16 r_76.1).bind fun r_219 =>
    if r_219 then
    some (r_76.1.Id == 5)
    else
    some false))
    else none
theorem c5w (code_1:(List Int)) (more_2:(List Int)) (r:Bool) (hf:b4b code_1 more_2 = some r):y8 Tryz.prog 5 .flat [(.lst 1 (code_1.map a0p)),(.lst 1 (more_2.map a0p))] (.bool r):=by
 refine y8.of_awp mixed Tryz.func5 fc5 nle ?_;rw [a0h];unfold b4b at hf;unfold c5;refine (show awp Tryz.prog false 0 _ (ofL [(0,(.lst 1 (code_1.map a0p))),(1,(.lst 1 (more_2.map a0p)))]) [] _ from ?_);refine sr<|l9 (.bool false) rfl<|dk<|o6<|o6<|?_
 obtain ⟨s28_6,hb1,hf⟩:=ob hf
 refine a1k ([(0,(.lst 1 (code_1.map a0p))),(1,(.lst 1 (more_2.map a0p))),(28,(.bool s28_6))],[]) ?_ ?_
 ·refine a0k ?_
  rcases oi hb1 with ⟨c9,hb1⟩ | ⟨c9,hb1⟩
  ·refine l9 (.lst 1 (code_1.map a0p)) rfl<|a1e (a1p (enc:=a0p) rfl) fun hl8 => o7 (.bool (decide ((code_1.length:Int) > 1048576))) rfl rfl rfl<|l9 (.bool (decide ((code_1.length:Int) > 1048576))) rfl<|a0u (s:=24) (b:=true) rfl c9<|o9 rfl rfl<|o9 rfl rfl<|o9 rfl rfl<|o7 (.bool true) rfl trivial rfl<|y7<|?_;obtain rfl:=os hb1;exact ⟨[],[],_,_,rfl,rfl,⟨.refl _,⟨.refl _,⟨.refl _,trivial⟩⟩⟩,(.refl _)⟩
  ·refine l9 (.lst 1 (code_1.map a0p)) rfl<|a1e (a1p (enc:=a0p) rfl) fun hl8 => o7 (.bool (decide ((code_1.length:Int) > 1048576))) rfl rfl rfl<|l9 (.bool (decide ((code_1.length:Int) > 1048576))) rfl<|a0u (s:=24) (b:=false) rfl (bf c9)<|s_on rfl<|l9 (.lst 1 (more_2.map a0p)) rfl<|s_on rfl<|a1e (a1p (enc:=a0p) rfl) fun hl10 => s_on rfl<|o7 (.bool (decide ((more_2.length:Int) > 1048576))) rfl rfl rfl<|o7 (.bool (decide ((more_2.length:Int) > 1048576))) rfl trivial rfl<|y7<|?_;obtain rfl:=os hb1;exact ⟨[],[],_,_,rfl,rfl,⟨.refl _,⟨.refl _,⟨.refl _,trivial⟩⟩⟩,(.refl _)⟩
 ·rcases oi hf with ⟨c11,hf⟩ | ⟨c11,hf⟩
  ·refine x9 rfl c11<|sr<|l9 (.bool true) rfl<|dk<|a0a<|?_;obtain rfl:=os hf;exact a0d ⟨trivial,trivial⟩ rfl (.refl _)
  ·refine y5 rfl (bf c11)<|a0e<|a0f<|sr<|?_
   obtain ⟨r_12,er13,hf⟩:=ob hf
   refine l9 (.lst 1 (more_2.map a0p)) rfl<|x8 (a0g (d4p _ _ _ _ er13) rfl (.refl _) rfl)<|l9 (.int .i64 r_12) rfl<|dk<|sr<|?_
   obtain ⟨r_14,er15,hf⟩:=ob hf
   obtain ⟨x_16,ex17,hf⟩:=ob hf
   refine x8 (b2e rfl (b3q _ er15) rfl (.refl _) rfl)<|o7 (.lst 4 (r_14.Tables.map a1b)) rfl nle rfl<|l9 (.int .i64 r_12) rfl<|x8 (a3l (enc:=a1b) rfl rfl (a8m ex17) (a8n ex17))<|o7 (a1b x_16) rfl nle rfl<|x8 (a1o (j:=0) (c:=(.agg [(.str []),.nil,.nil,(.bool false)])) rfl trivial rfl rfl)<|a3w (a0v (v:=(.agg [(.str x_16.Name),(.lst 8 (x_16.Columns.map o5)),(.lst 1 (x_16.Unique.map encI)),(.bool x_16.Root)])) (y':=(.agg [(.str x_16.Name),(.lst 8 (x_16.Columns.map o5)),(.lst 1 (x_16.Unique.map encI)),(.bool x_16.Root)])) rfl rfl rfl trivial ⟨rfl,nle⟩ ⟨⟨rfl,trivial⟩,⟨⟨rfl,trivial⟩,⟨⟨rfl,trivial⟩,⟨⟨rfl,trivial⟩,trivial⟩⟩⟩⟩ rfl)<|?_
   refine dk<|sr<|?_
   obtain ⟨g19,hf⟩:=og hf
   refine o7 (.ptr 0 0 1) rfl trivial rfl<|o7 (.lst 8 (x_16.Columns.map o5)) rfl nle rfl<|a1e (a1p (enc:=o5) rfl) fun hl18 => x8 (d4n (j:=1) (enc:=(a1n 3 l7)) (m:=x_16.Columns.length) [] (.nil _) rfl rfl (Int.le_refl _) g19 rfl)<|o7 (.agg [(.int .i64 5),(.own 1 0 x_16.Columns.length)]) rfl ⟨⟨rfl,nle,trivial⟩,⟨⟨rfl,nle,trivial⟩,trivial⟩⟩ rfl<|x8 (a1o (j:=2) (c:=(.agg [(.int .i64 0),.nil])) rfl trivial rfl rfl)<|a3w (a0v (v:=(.agg [(.int .i64 5),(.own 1 0 x_16.Columns.length)])) (y':=(.agg [(.int .i64 5),(.own 1 0 x_16.Columns.length)])) rfl rfl rfl trivial ⟨rfl,nle⟩ ⟨⟨rfl,trivial⟩,⟨⟨rfl,trivial⟩,trivial⟩⟩ rfl)<|?_
   refine dk<|o6<|sr<|l9 (.int .i64 0) rfl<|dk<|?_
   obtain ⟨p56,hb1,hf⟩:=ob hf
   refine a2i (X:={q:(List (List o8)) // p56 = .go q}) (fun q => ([(0,(.lst 1 (code_1.map a0p))),(5,(.int .i64 r_12)),(6,(.ptr 0 0 0)),(7,(.ptr 1 0 0))],[.box 4 (.agg [(.str x_16.Name),(.lst 8 (x_16.Columns.map o5)),(.lst 1 (x_16.Unique.map encI)),(.bool x_16.Root)]),.box 2 (.agg [(.int .i64 5),(.own 2 0 q.1.length)]),.row 1 (q.1.map (a1n 3 l7))])) ?_ ?_
   ·refine a1m (X:={q:(Nat × (List (List o8))) // a5w (x_16.Columns.drop q.1) q.1 q.2 = some p56}) (fun q => ([(0,(.lst 1 (code_1.map a0p))),(5,(.int .i64 r_12)),(6,(.ptr 0 0 0)),(7,(.ptr 1 0 0)),(8,(.int .i64 (q.1.1:Int)))],[.box 4 (.agg [(.str x_16.Name),(.lst 8 (x_16.Columns.map o5)),(.lst 1 (x_16.Unique.map encI)),(.bool x_16.Root)]),.box 2 (.agg [(.int .i64 5),(.own 2 0 q.1.2.length)]),.row 1 (q.1.2.map (a1n 3 l7))])) (fun q => x_16.Columns.length - q.1.1) ⟨(0,List.replicate x_16.Columns.length []),hb1⟩ ⟨[],[0,2,1],_,_,rfl,rfl,⟨.refl _,⟨.refl _,⟨.refl _,⟨.refl _,⟨.refl _,trivial⟩⟩⟩⟩⟩,(.cons (.refl _) (.cons (.box (.agg (.cons (.refl _) (.cons (.of_eq (congrArg (AV.own _ 0) (by simp))) .nil)))) (.cons (.refl _) .nil)))⟩ ?_
    rintro ⟨⟨i_42,x_43⟩,hc1⟩
    have hc1:a5w (x_16.Columns.drop i_42) i_42 x_43 = some p56:=hc1
    refine (show awp Tryz.prog false 0 _ (ofL [(0,(.lst 1 (code_1.map a0p))),(5,(.int .i64 r_12)),(6,(.ptr 0 0 0)),(7,(.ptr 1 0 0)),(8,(.int .i64 (i_42:Int)))]) [.box 4 (.agg [(.str x_16.Name),(.lst 8 (x_16.Columns.map o5)),(.lst 1 (x_16.Unique.map encI)),(.bool x_16.Root)]),.box 2 (.agg [(.int .i64 5),(.own 2 0 x_43.length)]),.row 1 (x_43.map (a1n 3 l7))] _ from ?_)
    rcases a5p x_16.Columns i_42 with ⟨hie59,hd62⟩ | ⟨hlt57,x_63,hx58,hd62⟩
    ·rw [hd62,a5w.eq_1] at hc1
     have hq61:=dlf hie59
     refine o6<|sr<|l9 (.int .i64 (i_42:Int)) rfl<|o7 (.ptr 0 0 1) rfl trivial rfl<|o7 (.lst 8 (x_16.Columns.map o5)) rfl nle rfl<|a1e (a1p (enc:=o5) rfl) fun hl64 => o7 (.bool (decide ((i_42:Int) < (x_16.Columns.length:Int)))) rfl rfl rfl<|dk<|y5 rfl hq61<|a2u<|a2t<|a1x<|a2s<|?_;obtain rfl:=os hc1;exact a3h ⟨_,rfl⟩ ⟨[],[0,1,2],_,_,rfl,rfl,⟨.refl _,⟨.refl _,⟨.refl _,⟨.refl _,trivial⟩⟩⟩⟩,(.refl _)⟩
    ·rw [hd62,a5w.eq_2] at hc1
     have hq61:=dlt hlt57
     refine o6<|sr<|l9 (.int .i64 (i_42:Int)) rfl<|o7 (.ptr 0 0 1) rfl trivial rfl<|o7 (.lst 8 (x_16.Columns.map o5)) rfl nle rfl<|a1e (a1p (enc:=o5) rfl) fun hl65 => o7 (.bool (decide ((i_42:Int) < (x_16.Columns.length:Int)))) rfl rfl rfl<|dk<|x9 rfl hq61<|a0e<|a0f<|o6<|a3c<|sr<|?_
     obtain ⟨r_66,er67,hc1⟩:=ob hc1
     refine o7 (.ptr 0 0 1) rfl trivial rfl<|o7 (.lst 8 (x_16.Columns.map o5)) rfl nle rfl<|l9 (.int .i64 (i_42:Int)) rfl<|x8 (a1r (enc:=o5) rfl rfl hx58)<|o7 (o5 x_63) rfl nle rfl<|x8 (b2e rfl (c0k _ _ er67) rfl (.refl _) rfl)<|l9 (.tup [(.lst 3 (r_66.1.map l7)),(.int .i64 r_66.2)]) rfl<|o7 (.lst 3 (r_66.1.map l7)) rfl nle rfl<|o7 (.int .i64 r_66.2) rfl nle rfl<|l9 (.lst 3 (r_66.1.map l7)) rfl<|l9 (.int .i64 r_66.2) rfl<|dk<|o6<|sr<|l9 (.int .i64 r_66.2) rfl<|o7 (.bool (r_66.2 != 0)) rfl rfl rfl<|dk<|?_
     rcases oi hc1 with ⟨c68,hc1⟩ | ⟨c68,hc1⟩
     ·refine x9 rfl c68<|sr<|l9 (.bool false) rfl<|dk<|a0a<|?_;obtain rfl:=os hc1;obtain rfl:=os hf;exact a0d ⟨trivial,trivial⟩ rfl (.refl _)
     ·refine y5 rfl (bf c68)<|a0e<|a0f<|a0k<|?_
      obtain ⟨g69,hc1⟩:=og hc1
      obtain ⟨x_70,ex71,hc1⟩:=ob hc1
      refine o7 (.ptr 1 0 1) rfl trivial rfl<|o7 (.own 2 0 x_43.length) rfl nle rfl<|l9 (.int .i64 (i_42:Int)) rfl<|l9 (.lst 3 (r_66.1.map l7)) rfl<|x8 (c1i rfl rfl g69 rfl rfl)<|?_;refine a3w (b0k (v':=(.lst 3 (r_66.1.map l7))) (e':=r_66.1) rfl rfl ex71 rfl rfl rfl (by decide) (fun _ => by decide) ⟨rfl,rfl,rfl⟩ (.refl _) rfl) ?_;refine y7<|a2c<|a0f<|a0k<|l9 (.int .i64 (i_42:Int)) rfl<|o7 (.int .i64 (w64 ((i_42:Int) + 1))) rfl rfl rfl<|l9 (.int .i64 (w64 ((i_42:Int) + 1))) rfl<|y7<|?_;exact a1t ⟨((i_42 + 1),x_43.set i_42 r_66.1),hc1⟩ (mul hlt57) ⟨[],[0,1,2],_,_,rfl,rfl,⟨.refl _,⟨.refl _,⟨.refl _,⟨.refl _,⟨.of_eq (congrArg (AV.int _) (a1w hlt57 hl65)),trivial⟩⟩⟩⟩⟩,(.cons (.refl _) (.cons (.box (.agg (.cons (.refl _) (.cons (.of_eq (congrArg (AV.own _ 0) (by simp))) .nil)))) (.cons (.refl _) .nil)))⟩
   ·rintro ⟨x_55,rfl⟩
    refine sr<|?_
    obtain ⟨r_72,er73,hf⟩:=ob hf
    refine l9 (.lst 1 (code_1.map a0p)) rfl<|l9 (.int .i64 r_12) rfl<|x8 (b2e rfl (c5o _ _ _ er73) rfl (.refl _) rfl)<|l9 (.lst 3 (r_72.map a0c)) rfl<|dk<|o6<|e0t (j:=1) (i:=1) (o:=2) (l:=x_55) (enc:=(a1n 3 l7)) (l':=x_55) (h2:=[.box 4 (.agg [(.str x_16.Name),(.lst 8 (x_16.Columns.map o5)),(.lst 1 (x_16.Unique.map encI)),(.bool x_16.Root)]),.box 2 (.agg [(.int .i64 5),(.lst 1 (x_55.map (a1n 3 l7)))]),.dead]) (cs':=[(.int .i64 5),(.lst 1 (x_55.map (a1n 3 l7)))]) rfl rfl rfl rfl (by simp) rfl rfl<|a0k<|?_
    obtain ⟨r_76,er77,hf⟩:=ob hf
    refine o7 (.agg [(.str x_16.Name),(.lst 8 (x_16.Columns.map o5)),(.lst 1 (x_16.Unique.map encI)),(.bool x_16.Root)]) rfl nle rfl<|o7 (.agg [(.int .i64 5),(.lst 1 (x_55.map (a1n 3 l7)))]) rfl nle rfl<|l9 (.lst 3 (r_72.map a0c)) rfl<|x8 (c8h rfl (c0o _ _ _ _ er77) rfl (.refl _) rfl rfl)<|l9 (.tup [(a3g r_76.1),(.int .i64 r_76.2)]) rfl<|o7 (a3g r_76.1) rfl nle rfl<|o7 (.int .i64 r_76.2) rfl nle rfl<|x8 (a1o (j:=3) (c:=(.agg [(.int .i64 0),.nil])) rfl trivial rfl rfl)<|a3w (a0v (v:=(.agg [(.int .i64 r_76.1.Id),(.lst 1 (r_76.1.Cells.map (a1n 3 l7)))])) (y':=(.agg [(.int .i64 r_76.1.Id),(.lst 1 (r_76.1.Cells.map (a1n 3 l7)))])) rfl rfl rfl trivial ⟨rfl,nle⟩ ⟨⟨rfl,trivial⟩,⟨⟨rfl,trivial⟩,trivial⟩⟩ rfl)<|?_
    refine l9 (.int .i64 r_76.2) rfl<|dk<|sr<|?_
    obtain ⟨r_78,er79,hf⟩:=ob hf
    refine o7 (.agg [(.str x_16.Name),(.lst 8 (x_16.Columns.map o5)),(.lst 1 (x_16.Unique.map encI)),(.bool x_16.Root)]) rfl nle rfl<|o7 (.agg [(.int .i64 5),(.lst 1 (x_55.map (a1n 3 l7)))]) rfl nle rfl<|l9 (.lst 3 (r_72.map a0c)) rfl<|x8 (b2e rfl (c0s _ _ _ _ er79) rfl (.refl _) rfl)<|l9 (.tup [(a3g r_78.1),(.int .i64 r_78.2)]) rfl<|o7 (a3g r_78.1) rfl nle rfl<|o7 (.int .i64 r_78.2) rfl nle rfl<|x8 (a1o (j:=4) (c:=(.agg [(.int .i64 0),.nil])) rfl trivial rfl rfl)<|a3w (a0v (v:=(.agg [(.int .i64 r_78.1.Id),(.lst 1 (r_78.1.Cells.map (a1n 3 l7)))])) (y':=(.agg [(.int .i64 r_78.1.Id),(.lst 1 (r_78.1.Cells.map (a1n 3 l7)))])) rfl rfl rfl trivial ⟨rfl,nle⟩ ⟨⟨rfl,trivial⟩,⟨⟨rfl,trivial⟩,trivial⟩⟩ rfl)<|?_
    refine l9 (.int .i64 r_78.2) rfl<|dk<|o6<|o6<|?_
    obtain ⟨s95_86,hb1,hf⟩:=ob hf
    refine a1k ([(6,(.ptr 0 0 0)),(11,(.lst 3 (r_72.map a0c))),(12,(.ptr 1 0 0)),(13,(.int .i64 r_76.2)),(95,(.bool s95_86))],[.box 4 (.agg [(.str x_16.Name),(.lst 8 (x_16.Columns.map o5)),(.lst 1 (x_16.Unique.map encI)),(.bool x_16.Root)]),.box 2 (.agg [(.int .i64 r_76.1.Id),(.lst 1 (r_76.1.Cells.map (a1n 3 l7)))])]) ?_ ?_
    ·refine a0k<|l9 (.int .i64 r_76.2) rfl<|l9 (.int .i64 r_78.2) rfl<|o7 (.bool (r_76.2 != r_78.2)) rfl rfl rfl<|l9 (.bool (r_76.2 != r_78.2)) rfl<|?_
     rcases oi hb1 with ⟨c88,hb1⟩ | ⟨c88,hb1⟩
     ·refine a0u (s:=84) (b:=true) rfl c88<|o9 rfl rfl<|o9 rfl rfl<|o9 rfl rfl<|o9 rfl rfl<|o7 (.bool true) rfl trivial rfl<|l9 (.bool true) rfl<|o9 rfl rfl<|o9 rfl rfl<|o9 rfl rfl<|o9 rfl rfl<|o7 (.bool true) rfl trivial rfl<|y7<|?_;obtain rfl:=os hb1;exact ⟨[],[0,3],_,_,rfl,rfl,⟨.refl _,⟨.refl _,⟨.refl _,⟨.refl _,⟨.refl _,trivial⟩⟩⟩⟩⟩,(.refl _)⟩
     ·refine a0u (s:=84) (b:=false) rfl (bf c88)<|s_on rfl<|o7 (.agg [(.int .i64 r_76.1.Id),(.lst 1 (r_76.1.Cells.map (a1n 3 l7)))]) rfl nle rfl<|s_on rfl<|o7 (.agg [(.int .i64 r_78.1.Id),(.lst 1 (r_78.1.Cells.map (a1n 3 l7)))]) rfl nle rfl<|s_on rfl<|?_
      obtain ⟨r_89,er90,hb1⟩:=ob hb1
      refine x8 (a0g (c4m _ _ _ er90) rfl (.refl _) rfl)<|s_on rfl<|o7 (.bool (!r_89)) rfl trivial rfl<|o7 (.bool (!r_89)) rfl trivial rfl<|l9 (.bool (!r_89)) rfl<|?_
      rcases oi hb1 with ⟨c91,hb1⟩ | ⟨c91,hb1⟩
      ·refine a0u (s:=90) (b:=true) rfl c91<|o9 rfl rfl<|o9 rfl rfl<|o9 rfl rfl<|o9 rfl rfl<|o7 (.bool true) rfl trivial rfl<|y7<|?_;obtain rfl:=os hb1;exact ⟨[],[0,3],_,_,rfl,rfl,⟨.refl _,⟨.refl _,⟨.refl _,⟨.refl _,⟨.refl _,trivial⟩⟩⟩⟩⟩,(.refl _)⟩
      ·refine a0u (s:=90) (b:=false) rfl (bf c91)<|s_on rfl<|o7 (.agg [(.str x_16.Name),(.lst 8 (x_16.Columns.map o5)),(.lst 1 (x_16.Unique.map encI)),(.bool x_16.Root)]) rfl nle rfl<|s_on rfl<|o7 (.agg [(.int .i64 5),(.lst 1 (x_55.map (a1n 3 l7)))]) rfl nle rfl<|s_on rfl<|?_
       obtain ⟨r_92,er93,hb1⟩:=ob hb1
       refine x8 (a0g (b5h _ _ _ er93) rfl (.refl _) rfl)<|s_on rfl<|o7 (.bool (!r_92)) rfl trivial rfl<|o7 (.bool (!r_92)) rfl trivial rfl<|y7<|?_;obtain rfl:=os hb1;exact ⟨[],[0,3],_,_,rfl,rfl,⟨.refl _,⟨.refl _,⟨.refl _,⟨.refl _,⟨.refl _,trivial⟩⟩⟩⟩⟩,(.refl _)⟩
    ·rcases oi hf with ⟨c94,hf⟩ | ⟨c94,hf⟩
     ·refine x9 rfl c94<|sr<|l9 (.bool false) rfl<|dk<|a0a<|?_;obtain rfl:=os hf;exact a0d ⟨trivial,trivial⟩ rfl (.refl _)
     ·refine y5 rfl (bf c94)<|a0e<|a0f<|o6<|sr<|l9 (.int .i64 0) rfl<|dk<|?_
      obtain ⟨p191,hb1,hf⟩:=ob hf
      refine a2i (X:={q:Unit // p191 = .go q}) (fun q => ([(6,(.ptr 0 0 0)),(12,(.ptr 1 0 0)),(13,(.int .i64 r_76.2))],[.box 4 (.agg [(.str x_16.Name),(.lst 8 (x_16.Columns.map o5)),(.lst 1 (x_16.Unique.map encI)),(.bool x_16.Root)]),.box 2 (.agg [(.int .i64 r_76.1.Id),(.lst 1 (r_76.1.Cells.map (a1n 3 l7)))])])) ?_ ?_
      ·refine a1m (X:={q:Nat // a5x x_16 (r_72.drop q)  = some p191}) (fun q => ([(6,(.ptr 0 0 0)),(11,(.lst 3 (r_72.map a0c))),(12,(.ptr 1 0 0)),(13,(.int .i64 r_76.2)),(16,(.int .i64 (q.1:Int)))],[.box 4 (.agg [(.str x_16.Name),(.lst 8 (x_16.Columns.map o5)),(.lst 1 (x_16.Unique.map encI)),(.bool x_16.Root)]),.box 2 (.agg [(.int .i64 r_76.1.Id),(.lst 1 (r_76.1.Cells.map (a1n 3 l7)))])])) (fun q => r_72.length - q.1) ⟨0,hb1⟩ ⟨[],[0,1],_,_,rfl,rfl,⟨.refl _,⟨.refl _,⟨.refl _,⟨.refl _,⟨.refl _,trivial⟩⟩⟩⟩⟩,(.refl _)⟩ ?_
       rintro ⟨i_158,hc1⟩
       have hc1:a5x x_16 (r_72.drop i_158)  = some p191:=hc1
       refine (show awp Tryz.prog false 0 _ (ofL [(6,(.ptr 0 0 0)),(11,(.lst 3 (r_72.map a0c))),(12,(.ptr 1 0 0)),(13,(.int .i64 r_76.2)),(16,(.int .i64 (i_158:Int)))]) [.box 4 (.agg [(.str x_16.Name),(.lst 8 (x_16.Columns.map o5)),(.lst 1 (x_16.Unique.map encI)),(.bool x_16.Root)]),.box 2 (.agg [(.int .i64 r_76.1.Id),(.lst 1 (r_76.1.Cells.map (a1n 3 l7)))])] _ from ?_)
       rcases a5p r_72 i_158 with ⟨hie194,hd197⟩ | ⟨hlt192,x_198,hx193,hd197⟩
       ·rw [hd197,a5x.eq_1] at hc1
        have hq196:=dlf hie194
        refine o6<|sr<|l9 (.int .i64 (i_158:Int)) rfl<|l9 (.lst 3 (r_72.map a0c)) rfl<|a1e (a1p (enc:=a0c) rfl) fun hl199 => o7 (.bool (decide ((i_158:Int) < (r_72.length:Int)))) rfl rfl rfl<|dk<|y5 rfl hq196<|a2u<|a2t<|a1x<|a2s<|?_;obtain rfl:=os hc1;exact a3h ⟨_,rfl⟩ ⟨[],[0,1],_,_,rfl,rfl,⟨.refl _,⟨.refl _,⟨.refl _,trivial⟩⟩⟩,(.refl _)⟩
       ·rw [hd197,a5x.eq_2] at hc1
        have hq196:=dlt hlt192
        refine o6<|sr<|l9 (.int .i64 (i_158:Int)) rfl<|l9 (.lst 3 (r_72.map a0c)) rfl<|a1e (a1p (enc:=a0c) rfl) fun hl200 => o7 (.bool (decide ((i_158:Int) < (r_72.length:Int)))) rfl rfl rfl<|dk<|x9 rfl hq196<|a0e<|a0f<|o6<|a3c<|sr<|?_
        obtain ⟨r_201,er202,hc1⟩:=ob hc1
        refine o7 (.agg [(.str x_16.Name),(.lst 8 (x_16.Columns.map o5)),(.lst 1 (x_16.Unique.map encI)),(.bool x_16.Root)]) rfl nle rfl<|l9 (.lst 3 (r_72.map a0c)) rfl<|l9 (.int .i64 (i_158:Int)) rfl<|x8 (a1r (enc:=a0c) rfl rfl hx193)<|o7 (a0c x_198) rfl nle rfl<|a2j (a0g (c4n _ _ _ er202) rfl (.refl _) rfl) a6a trivial<|l9 (.tup [(.int .i64 r_201.1),(.int .i64 r_201.2)]) rfl<|o7 (.int .i64 r_201.1) rfl nle rfl<|o7 (.int .i64 r_201.2) rfl nle rfl<|l9 (.int .i64 r_201.1) rfl<|l9 (.int .i64 r_201.2) rfl<|dk<|sr<|?_
        obtain ⟨r_203,er204,hc1⟩:=ob hc1
        refine o7 (.agg [(.str x_16.Name),(.lst 8 (x_16.Columns.map o5)),(.lst 1 (x_16.Unique.map encI)),(.bool x_16.Root)]) rfl nle rfl<|l9 (.lst 3 (r_72.map a0c)) rfl<|l9 (.int .i64 (i_158:Int)) rfl<|x8 (a1r (enc:=a0c) rfl rfl hx193)<|o7 (a0c x_198) rfl nle rfl<|a2j (a0g (c4o _ _ _ er204) rfl (.refl _) rfl) a6a trivial<|l9 (.tup [(.int .i64 r_203.1),(.int .i64 r_203.2)]) rfl<|o7 (.int .i64 r_203.1) rfl nle rfl<|o7 (.int .i64 r_203.2) rfl nle rfl<|l9 (.int .i64 r_203.1) rfl<|l9 (.int .i64 r_203.2) rfl<|dk<|o6<|?_
        obtain ⟨s141_210,hb2,hc1⟩:=ob hc1
        refine a1k ([(6,(.ptr 0 0 0)),(11,(.lst 3 (r_72.map a0c))),(12,(.ptr 1 0 0)),(13,(.int .i64 r_76.2)),(16,(.int .i64 (i_158:Int))),(141,(.bool s141_210))],[.box 4 (.agg [(.str x_16.Name),(.lst 8 (x_16.Columns.map o5)),(.lst 1 (x_16.Unique.map encI)),(.bool x_16.Root)]),.box 2 (.agg [(.int .i64 r_76.1.Id),(.lst 1 (r_76.1.Cells.map (a1n 3 l7)))])]) ?_ ?_
        ·refine a0k<|l9 (.int .i64 r_201.2) rfl<|o7 (.bool (r_201.2 != 0)) rfl rfl rfl<|l9 (.bool (r_201.2 != 0)) rfl<|?_;refine s_g (v:=(r_201.2 != 0)) (.int .i64 r_201.1) rfl (fun hv => by (try simp only [a0i hv]);exact ⟨rfl,trivial,rfl⟩) ?_;refine s_g (v:=(r_201.2 != 0)) (.int .i64 r_203.1) rfl (fun hv => by (try simp only [a0i hv]);exact ⟨rfl,trivial,rfl⟩) ?_;refine s_g (v:=(r_201.2 != 0)) (.bool (r_201.1 != r_203.1)) rfl (fun hv => by (try simp only [a0i hv]);exact ⟨rfl,rfl,rfl⟩) ?_;refine a6l (x:=true) (y:=(r_201.1 != r_203.1)) rfl (fun hv => by (try simp only [a0i hv]);rfl) (fun hv => by (try simp only [a0i hv]);rfl) ?_;refine l9 (.bool (bif (r_201.2 != 0) then true else (r_201.1 != r_203.1))) rfl ?_
         rcases oi hb2 with ⟨c212,hb2⟩ | ⟨c212,hb2⟩
         ·refine a0u (s:=127) (b:=true) rfl c212<|o9 rfl rfl<|o9 rfl rfl<|o9 rfl rfl<|o9 rfl rfl<|o9 rfl rfl<|o9 rfl rfl<|o9 rfl rfl<|o9 rfl rfl<|o9 rfl rfl<|o9 rfl rfl<|b5e rfl rfl trivial<|b5e rfl rfl trivial<|o9 rfl rfl<|o7 (.bool true) rfl trivial rfl<|y7<|?_;obtain rfl:=os hb2;exact ⟨[],[0,1],_,_,rfl,rfl,⟨.refl _,⟨.refl _,⟨.refl _,⟨.refl _,⟨.refl _,⟨.refl _,trivial⟩⟩⟩⟩⟩⟩,(.refl _)⟩
         ·refine a0u (s:=127) (b:=false) rfl (bf c212)<|s_on rfl<|l9 (.lst 3 (r_72.map a0c)) rfl<|s_on rfl<|l9 (.int .i64 (i_158:Int)) rfl<|s_on rfl<|x8 (a1r (enc:=a0c) rfl rfl hx193)<|s_on rfl<|o7 (.iptr (a0c x_198) 1) rfl trivial rfl<|s_on rfl<|o7 (.int .i64 x_198.Func) rfl nle rfl<|s_on rfl<|l9 (.lst 3 (r_72.map a0c)) rfl<|s_on rfl<|l9 (.int .i64 (i_158:Int)) rfl<|s_on rfl<|x8 (a1r (enc:=a0c) rfl rfl hx193)<|s_on rfl<|o7 (.iptr (a0c x_198) 1) rfl trivial rfl<|s_on rfl<|o7 (.int .i64 x_198.Func) rfl nle rfl<|b8x rfl<|?_
          obtain ⟨r_213,er214,hb2⟩:=ob hb2
          refine a2j (a0g (c4p _ _ er214) rfl (.refl _) rfl) a6a trivial<|b8x rfl<|?_
          obtain ⟨r_215,er216,hb2⟩:=ob hb2
          refine a2j (a0g (c8k _ _ er216) rfl (.refl _) rfl) a6a trivial<|s_on rfl<|o7 (.bool (r_215 != x_198.Func)) rfl rfl rfl<|o7 (.bool (r_215 != x_198.Func)) rfl trivial rfl<|y7<|?_;obtain rfl:=os hb2;exact ⟨[],[0,1],_,_,rfl,rfl,⟨.refl _,⟨.refl _,⟨.refl _,⟨.refl _,⟨.refl _,⟨.refl _,trivial⟩⟩⟩⟩⟩⟩,(.refl _)⟩
        ·rcases oi hc1 with ⟨c217,hc1⟩ | ⟨c217,hc1⟩
         ·refine x9 rfl c217<|sr<|l9 (.bool false) rfl<|dk<|a0a<|?_;obtain rfl:=os hc1;obtain rfl:=os hf;exact a0d ⟨trivial,trivial⟩ rfl (.refl _)
         ·refine y5 rfl (bf c217)<|a0e<|a2c<|a0f<|a0k<|l9 (.int .i64 (i_158:Int)) rfl<|o7 (.int .i64 (w64 ((i_158:Int) + 1))) rfl rfl rfl<|l9 (.int .i64 (w64 ((i_158:Int) + 1))) rfl<|y7<|?_;exact a1t ⟨(i_158 + 1),hc1⟩ (mul hlt192) ⟨[],[0,1],_,_,rfl,rfl,⟨.refl _,⟨.refl _,⟨.refl _,⟨.refl _,⟨.of_eq (congrArg (AV.int _) (a1w hlt192 hl200)),trivial⟩⟩⟩⟩⟩,(.refl _)⟩
      ·rintro ⟨_,rfl⟩
       refine sr<|l9 (.int .i64 r_76.2) rfl<|o7 (.bool (r_76.2 != 0)) rfl rfl rfl<|l9 (.bool (r_76.2 != 0)) rfl<|?_
       rcases oi hf with ⟨c218,hf⟩ | ⟨c218,hf⟩
       ·refine a0u (s:=144) (b:=true) rfl c218<|o9 rfl rfl<|o9 rfl rfl<|o9 rfl rfl<|o9 rfl rfl<|a1y rfl<|a1y rfl<|a1y rfl<|o9 rfl rfl<|o7 (.bool true) rfl trivial rfl<|l9 (.bool true) rfl<|dk<|a0a<|?_;obtain rfl:=os hf;exact a0d ⟨trivial,trivial⟩ rfl (.refl _)
       ·refine a0u (s:=144) (b:=false) rfl (bf c218)<|s_on rfl<|o7 (.agg [(.str x_16.Name),(.lst 8 (x_16.Columns.map o5)),(.lst 1 (x_16.Unique.map encI)),(.bool x_16.Root)]) rfl nle rfl<|s_on rfl<|o7 (.agg [(.int .i64 r_76.1.Id),(.lst 1 (r_76.1.Cells.map (a1n 3 l7)))]) rfl nle rfl<|s_on rfl<|?_
        obtain ⟨r_219,er220,hf⟩:=ob hf
        refine x8 (a0g (b5h _ _ _ er220) rfl (.refl _) rfl)<|s_on rfl<|l9 (.bool r_219) rfl<|?_
        rcases oi hf with ⟨c221,hf⟩ | ⟨c221,hf⟩
        ·refine a0u (s:=148) (b:=true) rfl c221<|s_on rfl<|o7 (.ptr 1 0 0) rfl trivial rfl<|s_on rfl<|o7 (.int .i64 r_76.1.Id) rfl nle rfl<|s_on rfl<|o7 (.bool (r_76.1.Id == 5)) rfl rfl rfl<|s_on rfl<|o7 (.bool (r_76.1.Id == 5)) rfl trivial rfl<|o7 (.bool (r_76.1.Id == 5)) rfl trivial rfl<|l9 (.bool (r_76.1.Id == 5)) rfl<|dk<|a0a<|?_;obtain rfl:=os hf;exact a0d ⟨trivial,trivial⟩ rfl (.refl _)
        ·refine a0u (s:=148) (b:=false) rfl (bf c221)<|o9 rfl rfl<|o9 rfl rfl<|o9 rfl rfl<|s_on rfl<|o7 (.bool false) rfl trivial rfl<|o7 (.bool false) rfl trivial rfl<|l9 (.bool false) rfl<|dk<|a0a<|?_;obtain rfl:=os hf;exact a0d ⟨trivial,trivial⟩ rfl (.refl _)

end Go.R
