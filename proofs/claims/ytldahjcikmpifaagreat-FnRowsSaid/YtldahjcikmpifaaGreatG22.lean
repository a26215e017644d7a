/- Part of the proof. -/
import Derived.Test.YtldahjcikmpifaaGreatG11
import Derived.Test.YtldahjcikmpifaaGreatG12
import Derived.Test.YtldahjcikmpifaaGreatG13
import Derived.Test.YtldahjcikmpifaaGreatG14

section
set_option linter.all false
namespace Go.R
open Go Go.Proofs
set_option maxRecDepth 100000
set_option maxHeartbeats 8000000
instance w_spec_l05Strong (D:a0b) (E:x9) (A:Int) (B:Int) (r:Int):Wk Tryz.prog (a6l D E A B = some r) 87 [(a3w D),(a0u E),(.int .i64 A),(.int .i64 B)] (.int .i64 r):=⟨fun hf => by
 unfold a6l at hf;refine coA [7,19,34,39,51,52,53] [d9r [2,3,4,5] fun i (v:Int) => (fun _ _ _ _ _ => ([(9,(.int .i64 v)),(10,(.int .i64 (i:Int)))],none)),zF2 [2,3,4,5,10] fun v:(Int × Int) => (fun _ _ _ _ _ => ([(9,(.int .i64 v.1)),(11,(.int .i64 v.2))],none)),cZ [2,3,4,5,9,10,11] fun v:Bool => (fun g w c o m => ([(54,(.bool v))],some [o 0,o 1])),zN1 [2,3,4,5,10,11] fun i (v:Int) => (fun _ _ _ _ _ => ([(9,(.int .i64 v)),(13,(.int .i64 (i:Int)))],none)),cZ [2,3,4,5,10,11] fun v:Int => (fun _ _ _ _ _ => ([(9,(.int .i64 v))],none)),cZ [2,3,4,5,10] fun v:Int => (fun _ _ _ _ _ => ([(9,(.int .i64 v))],none)),cZ [] fun v:Int => (fun _ _ _ _ _ => ([(9,(.int .i64 v))],some []))] Tryz.func87 ?_;exact Z⟩
instance w_spec_l05Refs (A:a0b) (B:x9) (r:Bool):Wk Tryz.prog (b4s A B = some r) 326 [(a3w A),(a0u B)] (.bool r):=⟨fun hf => by
 unfold b4s at hf;refine coA [5,17,39,53,71,72,73,74] [zI0 [2,3] fun i => (fun _ _ _ _ _ => ([(5,(.int .i64 (i:Int)))],none)),zF1 [2,3,5] fun v:Int => (fun _ _ _ _ _ => ([(6,(.int .i64 v))],none)),zN0 [2,3,5,6,8] fun i => (fun g w c o m => ([(9,(.int .i64 (i:Int)))],some [o 0,o 1])),zN0 [2,3,5,6,8,9,10] fun i => (fun _ _ _ _ _ => ([(11,(.int .i64 (i:Int)))],none)),fZ [2,3,5,6,8,9] fun v:Unit => (fun _ _ _ _ _ => ([],none)),fZ [2,3,5,6] fun v:Unit => (fun g w c o m => ([],some [o 0,o 1])),fZ [2,3,5] fun v:Unit => (fun _ _ _ _ _ => ([],none)),fZ [] fun v:Unit => (fun _ _ _ _ _ => ([],some []))] Tryz.func326 ?_ (sp:=[(4,[[19,27]]),(5,[[30,38],[7],[1000]]),(7,[[42,46],[47,0,43,42],[48,49],[8]]),(9,[[50,57]]),(10,[[60,71],[10]]),(13,[[78,85]])]);exact Z⟩
instance w_spec_l05Unique (L:a0b) (G:x9) (r:Bool):Wk Tryz.prog (b2v L G = some r) 327 [(a3w L),(a0u G)] (.bool r):=⟨fun hf => by
 unfold b2v at hf;refine co [48,116,132,134,136] Tryz.func327 ?_ (sp:=[(3,[[18,23],[6]]),(5,[[24,36]]),(11,[[50,81],[82,0],[83],[9,0]])]);refine sr<|bx ?_;refine bx ?_;refine gq 1 ?_;refine gq 1 ?_
 obtain ⟨p6192,hb1,hf⟩:=ob hf
 refine c2e (X:={q:Unit // p6192 = .go q}) (fun q => ([],[])) ?_ ?_
 ·refine ah (X:={q:Nat // a3s L (G.Tables.drop q) q = some p6192}) [2,3] (fun q => [(5,(.I (q.1:Int)))]) (fun q => G.Tables.length - q.1) ⟨0,hb1⟩ ?_
  rintro ⟨H,hc1⟩
  dsimp only at hc1 ⊢
  rcases d4t G.Tables H with ⟨hie6195,hd6198⟩ | ⟨hlt6193,B,hx6194,hd6198⟩
  ·rw [hd6198,a3s.eq_1] at hc1
   refine go 3 ?_;refine ln fun hl6200 => ?_;refine gq 1 ?_;refine wg (dlf hie6195)<|le ?_;cases hc1;exact kk ⟨_,rfl⟩ []
  ·rw [hd6198,a3s.eq_2] at hc1
   refine go 3 ?_;refine ln fun hl6201 => ?_;refine gq 1 ?_;refine wt (dlt hlt6193)<|a4s<|a4g<|a0n<|b6d<|a0n<|a5h ?_
   obtain ⟨A,ex6203,hc1⟩:=ob hc1
   refine go 3 ?_;refine ix ex6203 ?_;refine gq 3 ?_;refine gq 1 ?_
   obtain ⟨p7341,hb2,hc1⟩:=ob hc1
   refine axb (X:={q:Unit // p7341 = .go q}) [2,3,5] (fun q => []) ?_ ?_
   ·refine ah (X:={q:(Nat × Int) // a2p B A q.1 q.2 = some p7341}) [2,3,5,6] (fun q => [(7,(.I q.1.2))]) (fun q => q.1.1) ⟨(FUEL,0),hb2⟩ ?_
    rintro ⟨⟨k,D⟩,hc2⟩
    dsimp only at hc2 ⊢
    rcases k with _ | k
    ·rw [a2p.eq_1] at hc2
     cases hc2
    ·rw [a2p.eq_2] at hc2;refine a0n<|a0n ?_
     obtain ⟨p7344,hb3,hc2⟩:=ob hc2
     refine ac [2,3,5,6,7] [(36,(.bool (bif (decide (D < (B.length:Int))) then (decide ((A.Unique.length:Int) > 0)) else false)))] ?_ ?_
     ·refine go 4 ?_;refine ia hx6194 ?_;refine go 1 ?_;refine ln fun hl7345 => ?_;refine go 1 ?_;refine go 1 ?_;refine sg (.lst 1 (A.Unique.map encI)) ?_;refine s_g (v:=(decide (D < (B.length:Int)))) (.I (A.Unique.length:Int)) rfl (fun hv => by (try simp only [a5b hv]);exact ⟨rfl,tr,lenV _ _⟩) ?_
      refine sg (.bool (decide ((A.Unique.length:Int) > 0))) ?_;refine d7u (x:=(decide ((A.Unique.length:Int) > 0))) (y:=false) rfl (fun hv => by (try simp only [a5b hv]);rfl) (fun hv => by (try simp only [a5b hv]);rfl) ?_;refine a9v ?_;cases hb3;exact ck [0,1]
     ·rcases oi hc2 with ⟨c7347,hc2⟩ | ⟨c7347,hc2⟩
      ·refine wt c7347<|a4s<|a4g<|a0n<|b6d ?_;refine gq 1 ?_
       obtain ⟨p7826,hb3,hc2⟩:=ob hc2
       refine axb (X:={q:Unit // p7826 = .go q}) [2,3,5,6,7] (fun q => []) ?_ ?_
       ·refine ah (X:={q:(Nat × Int) // a3r D B A q.1 q.2 = some p7826}) [2,3,5,6,7] (fun q => [(8,(.I q.1.2))]) (fun q => q.1.1) ⟨(FUEL,0),hb3⟩ ?_
        rintro ⟨⟨k,J⟩,hc3⟩
        dsimp only at hc3 ⊢
        rcases k with _ | k
        ·rw [a3r.eq_1] at hc3
         cases hc3
        ·rw [a3r.eq_2] at hc3;refine gq 3 ?_
         rcases oi hc3 with ⟨c7827,hc3⟩ | ⟨c7827,hc3⟩
         ·refine wt c7827<|a4s<|a4g<|a0n<|b6d ?_;refine gq 1 ?_;refine gq 1 ?_
          obtain ⟨E,hb4,hc3⟩:=ob hc3
          refine ac [2,3,5,6,7,8] [(9,(.bool E))] ?_ ?_
          ·refine ah (X:={q:(Bool × Nat) // a3b B D J (A.Unique.drop q.2) q.1 = some E}) [2,3,5,6,7,8] (fun q => [(9,(.bool q.1.1)),(10,(.I (q.1.2:Int)))]) (fun q => A.Unique.length - q.1.2) ⟨(true,0),hb4⟩ ?_
           rintro ⟨⟨M,F⟩,hc4⟩
           dsimp only at hc4 ⊢
           rcases d4t A.Unique F with ⟨hie7887,hd7890⟩ | ⟨hlt7885,N,hx7886,hd7890⟩
           ·rw [hd7890,a3b.eq_1] at hc4
            refine go 2 ?_;refine ln fun hl7892 => ?_;refine gq 1 ?_;refine wg (dlf hie7887)<|le ?_;cases hc4;exact ck [0,1]
           ·rw [hd7890,a3b.eq_2] at hc4
            refine go 2 ?_;refine ln fun hl7893 => ?_;refine gq 1 ?_;refine wt (dlt hlt7885)<|a4s<|a4g<|a0n<|b6d ?_;refine go 2 ?_
            rcases oi hc4 with ⟨c7894,hc4⟩ | ⟨c7894,hc4⟩
            ·refine sl 51 c7894 ?_;refine go 3 ?_;refine s_on rfl<|ia hx6194 ?_;refine go 2 ?_;refine s_on rfl ?_
             obtain ⟨O,ex7896,hc4⟩:=ob hc4
             refine ix ex7896 ?_;refine go 4 ?_;refine s_on rfl<|ia hx7886 ?_;refine go 1 ?_;refine s_on rfl ?_
             obtain ⟨P,ex7898,hc4⟩:=ob hc4
             refine ix ex7898 ?_;refine go 4 ?_;refine s_on rfl<|ia hx6194 ?_;refine go 2 ?_;refine s_on rfl ?_
             obtain ⟨R,ex7900,hc4⟩:=ob hc4
             refine ix ex7900 ?_;refine go 4 ?_;refine s_on rfl<|ia hx7886 ?_;refine go 1 ?_;refine s_on rfl ?_
             obtain ⟨S,ex7902,hc4⟩:=ob hc4
             refine ix ex7902 ?_;refine go 1 ?_;refine c4y rfl ?_
             obtain ⟨K,er7904,hc4⟩:=ob hc4
             refine cll (w_spec_l03Same _ _ _ er7904) ?_;refine go 1 ?_;refine a4t (d9k (.bool K) rfl) b7z tr<|a9v<|b4i<|a4g ?_;refine gd 3 ?_;exact kl ⟨(K,(F + 1)),hc4⟩ [0,1]
            ·refine sf 51 c7894 ?_;refine go 30 ?_;refine b8a rfl rfl tr ?_;refine go 1 ?_;refine a4t (d9k (.bool false) rfl) b7z tr<|a9v<|b4i<|a4g<|a5h ?_
             refine gd 3 ?_;exact kl ⟨(false,(F + 1)),hc4⟩ [0,1]
          ·refine gq 1 ?_
           rcases oi hc3 with ⟨c7905,hc3⟩ | ⟨c7905,hc3⟩
           ·refine wt c7905 ?_;refine gq 1 ?_;cases hc3;cases hc2;cases hc1;cases hf;exact rf
           ·refine wf c7905<|a4s<|b4i<|a4g ?_;refine gd 3 ?_;exact kl ⟨(k,w64 (J + 1)),hc3⟩ [0,1]
         ·refine wf c7827<|le ?_;refine b4i ?_;cases hc3;exact kk ⟨_,rfl⟩ [0,1]
       ·rintro ⟨_,rfl⟩
        refine gd 3 ?_;exact kl ⟨(k,w64 (D + 1)),hc2⟩ [0,1]
      ·refine wf c7347<|le ?_;refine b4i ?_;cases hc2;exact kk ⟨_,rfl⟩ [0,1]
   ·rintro ⟨_,rfl⟩
    refine gd 3 ?_;exact kl ⟨(H + 1),hc1⟩ [0,1]
 ·rintro ⟨_,rfl⟩
  refine gq 1 ?_;cases hf;exact rf⟩
instance w_spec_l00Src_next_h2 (B:Int) (A:o8) (r:(Int × o8)):Wh Tryz.prog (a0c B A = some r) false 163 [(.ptr 0 0 0),(.int .i64 B)] [.box 3 (.agg [(.lst 1 (A.Code.map a0h)),(.int .i64 A.At),(.int .i64 A.Seed)])] (.int .i64 r.1) [.box 3 (.agg [(.lst 1 (r.2.Code.map a0h)),(.int .i64 r.2.At),(.int .i64 r.2.Seed)])]:=⟨fun hf => by
 unfold a0c at hf;refine b3b [] [] Tryz.func163 ?_;exact Z⟩
end Go.R
end
