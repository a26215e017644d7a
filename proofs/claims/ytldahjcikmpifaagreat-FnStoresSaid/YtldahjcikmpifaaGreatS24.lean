/- Part of the proof. -/
import Derived.Test.YtldahjcikmpifaaGreatS18
import Derived.Test.YtldahjcikmpifaaGreatS19
import Derived.Test.YtldahjcikmpifaaGreatS20

section
set_option linter.all false
namespace Go.R
open Go Go.Proofs
set_option maxRecDepth 100000
set_option maxHeartbeats 8000000
instance w_spec_l05Drop (x:x9) (t k:Int) (r:x9):Wf Tryz.prog (b4q x t k = some r) 204 [(a0o x),(.int .i64 t),(.int .i64 k)] (a0o r):=⟨fun hf => by
  unfold b4q at hf
  obtain ⟨y,ey,hf⟩:=ob hf
  obtain ⟨l,el,hf⟩:=ob hf
  split at hf
  · rename_i hc
    obtain rfl:=os hf
    obtain ⟨k,rfl⟩:∃ q:Nat,k = q:=⟨k.toNat,by omega⟩
    unfold idx at el
    split at el
    · rename_i h0
      obtain ⟨t,rfl⟩:∃ q:Nat,t = q:=⟨t.toNat,by omega⟩
      rw [Int.toNat_natCast] at el
      have hT:(y.Tables.map (a2m 2 y8))[t]? = some (.lst 2 (l.map y8)):=by rw [List.getElem?_map,el];rfl
      have:=e3f (T0:=x.Tables.map (a2m 2 y8)) (nx0:=x.Next) (nx:=y.Next) (k:=k) hT (by rw [List.length_map];omega) (by rw [List.length_map];omega) (by omega) (fun a ha => by obtain ⟨z,_,rfl⟩:=List.mem_map.1 ha;exact ⟨_,_,rfl⟩) (w_spec_l05Own _ _ ey)
      rw [← List.map_take,← List.map_drop,← List.map_append,show AV.lst 2 ((l.take k ++ l.drop (k + 1)).map y8) = a2m 2 y8 (l.take k ++ l.drop (k + 1)) from rfl,← List.map_set] at this
      simp only [Int.toNat_natCast]
      exact this
    · cases el
  · cases hf⟩
instance w_spec_l09Prune (s:o7) (x:x9) (r:x9):Wf Tryz.prog (b3l s x = some r) 108 [(a0s s),(a0o x)] (a0o r):=⟨fun hf => by
  unfold b3l at hf
  obtain ⟨q,eq,hf⟩:=ob hf
  obtain rfl:=os hf
  have h:=e7y (nx:=x.Next) (fun ts i id n h => ?_) (fun ts ts' h => ?_) (fun rows N p h => ?_) (fun rf f h => ?_) eq
  · rw [← e1s,← e8a,← e1r] at h
    exact h
  · have:=w_spec_l05Strong _ _ _ _ _ h
    rw [e1s,e1r] at this
    exact this
  · obtain ⟨y,ey,h⟩:=ob h
    split at h
    · rename_i hn
      obtain rfl:=os h
      have:=w_spec_l05Own _ _ ey
      rw [e1r] at this
      obtain ⟨yt,yn⟩:=y
      simp only at hn
      subst hn
      rw [e8a] at this
      exact this
    · cases h
  · have:=w_spec_l05Place _ _ _ h
    rw [← e7z] at this
    exact this
  · have:=w_spec_l04Find _ _ _ h
    rw [e1s] at this
    exact this⟩
instance w_spec_l09Commit (A:o7) (B:x9) (r:Int):Wk Tryz.prog (b2j A B = some r) 264 [(a0s A),(a0o B)] (.int .i64 r):=⟨fun hf => by
 unfold b2j at hf;refine coA [] [] Tryz.func264 ?_;exact Z⟩
instance w_spec_l00Src_pick_h1 (A:(List Str)) (B:x8) (r:(Str × x8)):Wh Tryz.prog (a1c A B = some r) false 303 [(.ptr 0 0 0),(.lst 1 (A.map AV.str))] [.box 3 (.agg [(.lst 1 (B.Code.map a0p)),(.int .i64 B.At),(.int .i64 B.Seed)])] (.str r.1) [.box 3 (.agg [(.lst 1 (r.2.Code.map a0p)),(.int .i64 r.2.At),(.int .i64 r.2.Seed)])]:=⟨fun hf => by
 unfold a1c at hf;refine b6a [] [] Tryz.func303 ?_;exact Z⟩
instance w_impl_ColumnOK (A:y7) (r:Bool):Wk Tryz.prog (b3m A = some r) 187 [(a0n A)] (.bool r):=⟨fun hf => by
 unfold b3m at hf;refine coA [5,26] [cZ [1] fun v:Bool => (fun _ _ _ _ _ => ([(18,(.bool v))],none)),cZ [1,20] fun v:Bool => (fun _ _ _ _ _ => ([(48,(.bool v))],none))] Tryz.func187 ?_;exact Z⟩
end Go.R
end
