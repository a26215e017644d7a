/- Part of the proof. -/
import Derived.Test.YtldahjcikmpifaaGreatS13
import Derived.Test.YtldahjcikmpifaaGreatS14

section
set_option linter.all false
namespace Go.R
open Go Go.Proofs
set_option maxRecDepth 100000
set_option maxHeartbeats 8000000
instance w_impl_NameOK (D:Str) (r:Bool):Wk Tryz.prog (b2k D = some r) 186 [(.str D)] (.bool r):=⟨fun hf => by
 unfold b2k at hf;refine co [42,46,58] Tryz.func186 ?_;refine sr<|a2t (.bool false) rfl<|dk<|a0q<|sr<|a2t (.str D) rfl<|c2p (e1b rfl) fun hl2 => a2t (.I 0) rfl<|dk<|?_
 obtain ⟨p44,hb1,hf⟩:=ob hf
 refine b8b (X:={q:Unit // p44 = .go q}) (fun q => ([(0,(.str D))],[])) ?_ ?_
 ·refine b5t (X:={q:Nat // a5b (D.drop q) q = some p44}) (fun q => ([(0,(.str D)),(7,(.I (D.length:Int))),(8,(.I (q.1:Int)))],[])) (fun q => D.length - q.1) ⟨0,hb1⟩ ⟨[],[],_,_,rfl,rfl,⟨.r,⟨.r,⟨.r,tr⟩⟩⟩,.r⟩ ?_
  rintro ⟨B,hc1⟩
  have hc1:a5b (D.drop B) B = some p44:=hc1
  refine (show awp Tryz.prog false 0 _ (ofL [(0,(.str D)),(7,(.I (D.length:Int))),(8,(.I (B:Int)))]) [] _ from ?_)
  rcases c7v D B with ⟨hie47,hd50⟩ | ⟨hlt45,A,hx46,hd50⟩
  ·rw [hd50,a5b.eq_1] at hc1
   have hq49:=dlf hie47
   refine sr<|s_q (.bool (decide ((B:Int) < (D.length:Int)))) rfl rfl rfl<|dk<|a0q<|b4i rfl hq49<|c4b<|c4a<|c1u<|c3z<|?_;obtain rfl:=os hc1;exact e1a ⟨_,rfl⟩ ⟨[],[],_,_,rfl,rfl,⟨.r,tr⟩,.r⟩
  ·rw [hd50,a5b.eq_2] at hc1
   have hq49:=dlt hlt45
   refine sr<|s_q (.bool (decide ((B:Int) < (D.length:Int)))) rfl rfl rfl<|dk<|a0q<|b5m rfl hq49<|a5n<|a5s<|a0q<|b7k<|sr<|a2t (.I (B:Int)) rfl<|a2t (.I (B:Int)) rfl<|dk<|sr<|a2t (.str D) rfl<|a2t (.I (B:Int)) rfl<|a4k (d5o rfl rfl hx46)<|a2t (.int .u8 (A.toNat:Int)) rfl<|dk<|a0q<|?_
   obtain ⟨p52,hb2,hc1⟩:=ob hc1
   refine b0n ([(0,(.str D)),(3,(.I (B:Int))),(4,(.int .u8 (A.toNat:Int))),(5,(.bool (bif (bif (bif (decide ((A.toNat:Int) ≥ 97)) then (decide ((A.toNat:Int) ≤ 122)) else false) then true else (bif (decide ((A.toNat:Int) ≥ 65)) then (decide ((A.toNat:Int) ≤ 90)) else false)) then true else ((A.toNat:Int) == 95)))),(7,(.I (D.length:Int))),(8,(.I (B:Int)))],[]) ?_ ?_
   ·refine a9i<|a2t (.int .u8 (A.toNat:Int)) rfl<|s_q (.bool (decide ((A.toNat:Int) ≥ 97))) rfl rfl rfl<|a2t (.bool (decide ((A.toNat:Int) ≥ 97))) rfl<|?_;refine s_g (v:=(decide ((A.toNat:Int) ≥ 97))) (.int .u8 (A.toNat:Int)) rfl (fun hv => by (try simp only [a2p hv]);exact ⟨rfl,tr,rfl⟩) ?_;refine s_g (v:=(decide ((A.toNat:Int) ≥ 97))) (.bool (decide ((A.toNat:Int) ≤ 122))) rfl (fun hv => by (try simp only [a2p hv]);exact ⟨rfl,rfl,rfl⟩) ?_;refine c6u (x:=(decide ((A.toNat:Int) ≤ 122))) (y:=false) rfl (fun hv => by (try simp only [a2p hv]);rfl) (fun hv => by (try simp only [a2p hv]);rfl) ?_;refine a2t (.bool (bif (decide ((A.toNat:Int) ≥ 97)) then (decide ((A.toNat:Int) ≤ 122)) else false)) rfl ?_
    refine s_g (v:=(bif (decide ((A.toNat:Int) ≥ 97)) then (decide ((A.toNat:Int) ≤ 122)) else false)) (.int .u8 (A.toNat:Int)) rfl (fun hv => by (try simp only [a2p hv]);exact ⟨rfl,tr,rfl⟩) ?_;refine s_g (v:=(bif (decide ((A.toNat:Int) ≥ 97)) then (decide ((A.toNat:Int) ≤ 122)) else false)) (.bool (decide ((A.toNat:Int) ≥ 65))) rfl (fun hv => by (try simp only [a2p hv]);exact ⟨rfl,rfl,rfl⟩) ?_;refine s_g (v:=(bif (decide ((A.toNat:Int) ≥ 97)) then (decide ((A.toNat:Int) ≤ 122)) else false)) (.bool (decide ((A.toNat:Int) ≥ 65))) rfl (fun hv => by (try simp only [a2p hv]);exact ⟨rfl,tr,rfl⟩) ?_;refine e4r (v1:=(bif (decide ((A.toNat:Int) ≥ 97)) then (decide ((A.toNat:Int) ≤ 122)) else false)) (b1:=false) (v2:=(decide ((A.toNat:Int) ≥ 65))) (.int .u8 (A.toNat:Int)) rfl (fun hv hw => by (try simp only [a2p hv,a2p hw]);exact ⟨rfl,tr,rfl⟩) ?_
    refine e4r (v1:=(bif (decide ((A.toNat:Int) ≥ 97)) then (decide ((A.toNat:Int) ≤ 122)) else false)) (b1:=false) (v2:=(decide ((A.toNat:Int) ≥ 65))) (.bool (decide ((A.toNat:Int) ≤ 90))) rfl (fun hv hw => by (try simp only [a2p hv,a2p hw]);exact ⟨rfl,rfl,rfl⟩) ?_;refine f3l (v1:=(bif (decide ((A.toNat:Int) ≥ 97)) then (decide ((A.toNat:Int) ≤ 122)) else false)) (b1:=false) (v2:=(decide ((A.toNat:Int) ≥ 65))) (x:=(decide ((A.toNat:Int) ≤ 90))) (y:=false) rfl (fun hv => by (try simp only [a2p hv]);rfl) (fun hv hw => by (try simp only [a2p hv,a2p hw]);rfl) (fun hv hw => by (try simp only [a2p hv,a2p hw]);rfl) ?_;refine c6u (x:=true) (y:=(bif (decide ((A.toNat:Int) ≥ 65)) then (decide ((A.toNat:Int) ≤ 90)) else false)) rfl (fun hv => by (try simp only [a2p hv]);rfl) (fun hv => by (try simp only [a2p hv]);rfl) ?_
    refine a2t (.bool (bif (bif (decide ((A.toNat:Int) ≥ 97)) then (decide ((A.toNat:Int) ≤ 122)) else false) then true else (bif (decide ((A.toNat:Int) ≥ 65)) then (decide ((A.toNat:Int) ≤ 90)) else false))) rfl ?_;refine s_g (v:=(bif (bif (decide ((A.toNat:Int) ≥ 97)) then (decide ((A.toNat:Int) ≤ 122)) else false) then true else (bif (decide ((A.toNat:Int) ≥ 65)) then (decide ((A.toNat:Int) ≤ 90)) else false))) (.int .u8 (A.toNat:Int)) rfl (fun hv => by (try simp only [a2p hv]);exact ⟨rfl,tr,rfl⟩) ?_;refine s_g (v:=(bif (bif (decide ((A.toNat:Int) ≥ 97)) then (decide ((A.toNat:Int) ≤ 122)) else false) then true else (bif (decide ((A.toNat:Int) ≥ 65)) then (decide ((A.toNat:Int) ≤ 90)) else false))) (.bool ((A.toNat:Int) == 95)) rfl (fun hv => by (try simp only [a2p hv]);exact ⟨rfl,rfl,rfl⟩) ?_
    refine c6u (x:=true) (y:=((A.toNat:Int) == 95)) rfl (fun hv => by (try simp only [a2p hv]);rfl) (fun hv => by (try simp only [a2p hv]);rfl) ?_;refine a2t (.bool (bif (bif (bif (decide ((A.toNat:Int) ≥ 97)) then (decide ((A.toNat:Int) ≤ 122)) else false) then true else (bif (decide ((A.toNat:Int) ≥ 65)) then (decide ((A.toNat:Int) ≤ 90)) else false)) then true else ((A.toNat:Int) == 95))) rfl<|a8y<|?_;obtain rfl:=os hb2;exact ⟨[],[],_,_,rfl,rfl,⟨.r,⟨.r,⟨.r,⟨.r,⟨.r,⟨.r,tr⟩⟩⟩⟩⟩⟩,.r⟩
   ·refine a0q ?_
    obtain ⟨F,hb2,hc1⟩:=ob hc1
    refine b0n ([(0,(.str D)),(7,(.I (D.length:Int))),(8,(.I (B:Int))),(42,(.bool F))],[]) ?_ ?_
    ·refine a9i ?_
     rcases oi hb2 with ⟨c59,hb2⟩ | ⟨c59,hb2⟩
     ·rcases oi hb2 with ⟨c60,hb2⟩ | ⟨c60,hb2⟩
      ·refine a2t (.bool (bif (bif (bif (decide ((A.toNat:Int) ≥ 97)) then (decide ((A.toNat:Int) ≤ 122)) else false) then true else (bif (decide ((A.toNat:Int) ≥ 65)) then (decide ((A.toNat:Int) ≤ 90)) else false)) then true else ((A.toNat:Int) == 95))) rfl<|s_q (.bool (!(bif (bif (bif (decide ((A.toNat:Int) ≥ 97)) then (decide ((A.toNat:Int) ≤ 122)) else false) then true else (bif (decide ((A.toNat:Int) ≥ 65)) then (decide ((A.toNat:Int) ≤ 90)) else false)) then true else ((A.toNat:Int) == 95)))) rfl tr rfl<|a2t (.bool (!(bif (bif (bif (decide ((A.toNat:Int) ≥ 97)) then (decide ((A.toNat:Int) ≤ 122)) else false) then true else (bif (decide ((A.toNat:Int) ≥ 65)) then (decide ((A.toNat:Int) ≤ 90)) else false)) then true else ((A.toNat:Int) == 95)))) rfl<|?_
       refine b9z (s:=34) (b:=true) rfl c59<|s_on rfl<|a2t (.I (B:Int)) rfl<|s_on rfl<|s_q (.bool ((B:Int) == 0)) rfl rfl rfl<|s_on rfl<|a2t (.bool ((B:Int) == 0)) rfl<|b9z (s:=37) (b:=true) rfl c60<|c0c rfl rfl<|c0c rfl rfl<|c0c rfl rfl<|s_on rfl<|s_q (.bool true) rfl tr rfl<|s_q (.bool true) rfl tr rfl<|a8y<|?_;obtain rfl:=os hb2;exact ⟨[],[],_,_,rfl,rfl,⟨.r,⟨.r,⟨.r,⟨.r,tr⟩⟩⟩⟩,.r⟩
      ·obtain ⟨E,er62,hb2⟩:=ob hb2
       refine a2t (.bool (bif (bif (bif (decide ((A.toNat:Int) ≥ 97)) then (decide ((A.toNat:Int) ≤ 122)) else false) then true else (bif (decide ((A.toNat:Int) ≥ 65)) then (decide ((A.toNat:Int) ≤ 90)) else false)) then true else ((A.toNat:Int) == 95))) rfl<|s_q (.bool (!(bif (bif (bif (decide ((A.toNat:Int) ≥ 97)) then (decide ((A.toNat:Int) ≤ 122)) else false) then true else (bif (decide ((A.toNat:Int) ≥ 65)) then (decide ((A.toNat:Int) ≤ 90)) else false)) then true else ((A.toNat:Int) == 95)))) rfl tr rfl<|a2t (.bool (!(bif (bif (bif (decide ((A.toNat:Int) ≥ 97)) then (decide ((A.toNat:Int) ≤ 122)) else false) then true else (bif (decide ((A.toNat:Int) ≥ 65)) then (decide ((A.toNat:Int) ≤ 90)) else false)) then true else ((A.toNat:Int) == 95)))) rfl<|?_
       refine b9z (s:=34) (b:=true) rfl c59<|s_on rfl<|a2t (.I (B:Int)) rfl<|s_on rfl<|s_q (.bool ((B:Int) == 0)) rfl rfl rfl<|s_on rfl<|a2t (.bool ((B:Int) == 0)) rfl<|b9z (s:=37) (b:=false) rfl (bf c60)<|s_on rfl<|a2t (.int .u8 (A.toNat:Int)) rfl<|s_on rfl<|a4k (c0e (w_impl_isDigit _ _ er62) rfl .r rfl)<|s_on rfl<|s_q (.bool (!E)) rfl tr rfl<|s_on rfl<|s_q (.bool (!E)) rfl tr rfl<|s_q (.bool (!E)) rfl tr rfl<|a8y<|?_;obtain rfl:=os hb2;exact ⟨[],[],_,_,rfl,rfl,⟨.r,⟨.r,⟨.r,⟨.r,tr⟩⟩⟩⟩,.r⟩
     ·refine a2t (.bool (bif (bif (bif (decide ((A.toNat:Int) ≥ 97)) then (decide ((A.toNat:Int) ≤ 122)) else false) then true else (bif (decide ((A.toNat:Int) ≥ 65)) then (decide ((A.toNat:Int) ≤ 90)) else false)) then true else ((A.toNat:Int) == 95))) rfl<|s_q (.bool (!(bif (bif (bif (decide ((A.toNat:Int) ≥ 97)) then (decide ((A.toNat:Int) ≤ 122)) else false) then true else (bif (decide ((A.toNat:Int) ≥ 65)) then (decide ((A.toNat:Int) ≤ 90)) else false)) then true else ((A.toNat:Int) == 95)))) rfl tr rfl<|a2t (.bool (!(bif (bif (bif (decide ((A.toNat:Int) ≥ 97)) then (decide ((A.toNat:Int) ≤ 122)) else false) then true else (bif (decide ((A.toNat:Int) ≥ 65)) then (decide ((A.toNat:Int) ≤ 90)) else false)) then true else ((A.toNat:Int) == 95)))) rfl<|?_
      refine b9z (s:=34) (b:=false) rfl (bf c59)<|c0c rfl rfl<|c0c rfl rfl<|c0c rfl rfl<|c6s rfl<|c6s rfl<|c6s rfl<|c0c rfl rfl<|s_q (.bool false) rfl tr rfl<|a8y<|?_;obtain rfl:=os hb2;exact ⟨[],[],_,_,rfl,rfl,⟨.r,⟨.r,⟨.r,⟨.r,tr⟩⟩⟩⟩,.r⟩
    ·rcases oi hc1 with ⟨c63,hc1⟩ | ⟨c63,hc1⟩
     ·refine b5m rfl c63<|sr<|a2t (.bool false) rfl<|dk<|b3g<|?_;obtain rfl:=os hc1;obtain rfl:=os hf;exact b7v ⟨tr,tr⟩ rfl .r
     ·refine b4i rfl (bf c63)<|a5n<|b6g<|a5s<|a9i<|s_q (.I (w64 ((B:Int) + 1))) rfl rfl rfl<|a2t (.I (w64 ((B:Int) + 1))) rfl<|a8y<|?_;exact d5n ⟨(B + 1),hc1⟩ (mul hlt45) ⟨[],[],_,_,rfl,rfl,⟨.r,⟨.r,⟨.of_eq (congrArg (AV.int _) (b2c hlt45 hl2)),tr⟩⟩⟩,.r⟩
 ·rintro ⟨_,rfl⟩
  refine sr<|?_
  obtain ⟨G,er66,hf⟩:=ob hf
  refine a2t (.str D) rfl<|c2p (e1b rfl) fun hl64 => a4k (c0e (w_impl_within _ _ _ _ er66) rfl .r rfl)<|a2t (.bool G) rfl<|dk<|b3g<|?_;obtain rfl:=os hf;exact b7v ⟨tr,tr⟩ rfl .r⟩
instance w_impl_isNumber (A:Int) (r:Bool):Wk Tryz.prog (a9c A = some r) 233 [(.int .i64 A)] (.bool r):=⟨fun hf => by
 unfold a9c at hf;refine coA [] [] Tryz.func233 ?_;exact Z⟩
instance w_impl_Table_columnAt (B:o6) (A:Str) (r:Int):Wk Tryz.prog (a6v B A = some r) 188 [(a0c B),(.str A)] (.int .i64 r):=⟨fun hf => by
 unfold a6v at hf;refine coA [] [] Tryz.func188 ?_;exact Z⟩
instance w_slices_ContainsFunc_impl_Table_impl_Table (A:(List o6)) (B:(o6 → Option Bool)) (r:Bool) {k:Nat} {cs:List AV} [kf:K1 Tryz.prog B (fun a0 => (a0c a0)) (fun r => (.bool r)) k cs]:Wk Tryz.prog (a1g A B = some r) 167 [(.lst 4 (A.map a0c)),(.fn k cs)] (.bool r):=⟨fun hf => by
 unfold a1g at hf;refine coA [] [] Tryz.func167 ?_;exact Z⟩
instance w_slices_ContainsFunc_impl_Column_impl_Column (A:(List y7)) (B:(y7 → Option Bool)) (r:Bool) {k:Nat} {cs:List AV} [kf:K1 Tryz.prog B (fun a0 => (a0n a0)) (fun r => (.bool r)) k cs]:Wk Tryz.prog (a1a A B = some r) 169 [(.lst 8 (A.map a0n)),(.fn k cs)] (.bool r):=⟨fun hf => by
 unfold a1a at hf;refine coA [] [] Tryz.func169 ?_;exact Z⟩
instance w_impl_Schema_tableAt (B:o7) (A:Str) (r:Int):Wk Tryz.prog (a3u B A = some r) 171 [(a0s B),(.str A)] (.int .i64 r):=⟨fun hf => by
 unfold a3u at hf;refine coA [] [] Tryz.func171 ?_;exact Z⟩
instance w_impl_isId (A:Int) (r:Bool):Wk Tryz.prog (b4a A = some r) 89 [(.int .i64 A)] (.bool r):=⟨fun hf => by
 unfold b4a at hf;refine coA [] [] Tryz.func89 ?_;exact Z⟩
instance w_cmp_Compare_int (A:Int) (B:Int) (r:Int):Wk Tryz.prog (cmp_Compare_int A B = some r) 249 [(.int .i64 A),(.int .i64 B)] (.int .i64 r):=⟨fun hf => by
 unfold cmp_Compare_int at hf;refine coA [] [] Tryz.func249 ?_;exact Z⟩
end Go.R
end
