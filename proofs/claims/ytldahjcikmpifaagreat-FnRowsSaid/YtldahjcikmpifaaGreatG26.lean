/- Part of the proof. -/
import Derived.Test.YtldahjcikmpifaaGreatG20
import Derived.Test.YtldahjcikmpifaaGreatG21

section
set_option linter.all false
namespace Go.R
open Go Go.Proofs
set_option maxRecDepth 100000
set_option maxHeartbeats 8000000
instance w_spec_l07Codes (B:x8) (A:(List b0b)) (r:Int):Wk Tryz.prog (b1h B A = some r) 368 [(a0f B),(.lst 3 (A.map a5j))] (.int .i64 r):=⟨fun hf => by
 unfold b1h at hf;refine coA [5,25] [zN0 [1,2] fun i => (fun _ _ _ _ _ => ([(5,(.int .i64 (i:Int)))],none)),fZ [] fun v:Unit => (fun _ _ _ _ _ => ([],some []))] Tryz.func368 ?_ (sp:=[(3,[[13,17],[18,0],[6]])]);exact Z⟩
instance w_spec_l08SetRow (B:x8) (D:o5) (A:(List a2c)) (r:(o5 × Int)):Wf Tryz.prog (a8e B D A = some r) 370 [(a0f B),(o6 D),(.lst 3 (A.map a2d))] (.tup [(o6 r.1),(.int .i64 r.2)]):=⟨fun hf => by
 unfold a8e at hf;refine coA [7,31] [zN1 [2,3,4,6] fun i (v:(List (List o7))) => (fun g w c o m => ([(8,(.int .i64 (i:Int)))],some [o 0,.box 2 (.agg [(c 1 0),(.own 3 0 v.length)]),o 2,.row 1 (v.map (a1f 3 l9))])),fZ [] fun v:(List (List o7)) => (fun g w c o m => ([(4,(.ptr 0 0 0)),(6,(.ptr 1 0 0))],some [.box 2 (.agg [(c 1 0),(.own 2 0 v.length)]),o 2,.row 1 (v.map (a1f 3 l9))]))] Tryz.func370 ?_ (sp:=[(4,[[19,24],[25,0],[9]]),(5,[[26,35],[36,0],[10]]),(8,[[41,43],[45,49],[44,0,49,48,47,42,41],[50,0,42,41],[51],[1000,0]])]);exact Z⟩
instance w_spec_l05Put (B:x9) (A:Int) (D:o5) (r:x9):Ww Tryz.prog (a8v B A D = some r) 148 [(a0u B),(.int .i64 A),(o6 D)] (a0u r):=⟨fun hf => by
 unfold a8v at hf;refine coA [9,14,19,24,27] [zF1 [1,3,5,6,7] fun v:Int => (fun _ _ _ _ _ => ([(8,(.int .i64 v))],none)),cZ [1,3,5,6,7,8] fun v:Bool => (fun _ _ _ _ _ => ([(30,(.bool v))],none)),cZ [1,3,5,6,7] fun v:Int => (fun _ _ _ _ _ => ([(8,(.int .i64 v))],none)),cZ [1,3,5,6,7,8,9] fun v:Bool => (fun _ _ _ _ _ => ([(49,(.bool v))],none)),cZ [1,3,5,6,7,8] fun v:(List o5) => (fun _ _ _ _ _ => ([(9,(.lst 2 (v.map o6)))],none))] Tryz.func148 ?_ (sp:=[(2,[[12,16],[7]]),(4,[[17,30]]),(7,[[36,49]]),(9,[[54,56],[58,60],[62],[66],[57,0,62,60,55,54],[61,0,62,55,54],[63,0,55,54],[64,0,55,54],[65,0,55,54],[67,0,55,54],[68],[1000,0]])]);exact Z⟩
instance w_spec_l05Drop (x:x9) (t k:Int) (r:x9):Wf Tryz.prog (b2u x t k = some r) 204 [(a0u x),(.int .i64 t),(.int .i64 k)] (a0u r):=⟨fun hf => by
  unfold b2u at hf
  obtain ⟨y,ey,hf⟩:=ob hf
  obtain ⟨l,el,hf⟩:=ob hf
  split at hf
  · rename_i hc
    obtain rfl:=os hf
    obtain ⟨k,rfl⟩:∃ q:Nat,k = q:=⟨k.toNat,by omega⟩
    unfold idx at el
    split at el
    · rename_i h0
      obtain ⟨t,rfl⟩:∃ q:Nat,t = q:=⟨t.toNat,by omega⟩
      rw [Int.toNat_natCast] at el
      have hT:(y.Tables.map (a1f 2 o6))[t]? = some (.lst 2 (l.map o6)):=by rw [List.getElem?_map,el];rfl
      have:=d9t (T0:=x.Tables.map (a1f 2 o6)) (nx0:=x.Next) (nx:=y.Next) (k:=k) hT (by rw [List.length_map];omega) (by rw [List.length_map];omega) (by omega) (fun a ha => by obtain ⟨z,_,rfl⟩:=List.mem_map.1 ha;exact ⟨_,_,rfl⟩) (w_spec_l05Own _ _ ey)
      rw [← List.map_take,← List.map_drop,← List.map_append,show AV.lst 2 ((l.take k ++ l.drop (k + 1)).map o6) = a1f 2 o6 (l.take k ++ l.drop (k + 1)) from rfl,← List.map_set] at this
      simp only [Int.toNat_natCast]
      exact this
    · cases el
  · cases hf⟩
end Go.R
end
