import Derived.Test.YtldahjcikmpifaaGreatHS
import Derived.Deep.RegionHeld
set_option linter.all false
namespace Go.R
open Go Go.Proofs Go.RowKit
set_option maxHeartbeats 400000
open Go.Sort
theorem b2t (w:World) (o:Obj):(w.alloc o).heap.size = w.heap.size + 1:=Array.size_push ..
set_option maxHeartbeats 4000000 in
set_option maxRecDepth 100000 in
theorem e3j (x y:Int × Int × List UInt8) (w:World) :
    Calls Tryz.prog 227 #[.agg (vA x).toArray,.agg (vA y).toArray] w fun e w' => e = .returned (.int .i64 (cfA x y)) ∧ ∃ q os',w' = grow (w.drewN q) os':=by
  obtain ⟨x1,x2,x3⟩:=x
  obtain ⟨y1,y2,y3⟩:=y
  unfold cfA vA
  simp only
  have h3:=fun W => e3h ⟨x3.toArray⟩ ⟨y3.toArray⟩ W
  simp only [List.toList_toArray] at h3
  generalize Lib.compareBytes x3 y3 = r3 at h3 ⊢
  have mixed:Tryz.prog.follows .mixedOrders = true:=by kernel_rfl
  go_enter Tryz.func227,(show Tryz.f227.ntmps = 22 from rfl)
  go_wp2_with fail
  have c0:((w.alloc (.cells #[.int .i64 x1,.int .i64 x2,.string ⟨x3.toArray⟩] 101)).alloc (.cells #[.int .i64 y1,.int .i64 y2,.string ⟨y3.toArray⟩] 101)).cell? ⟨w.heap.size,0,none⟩ = some (.int .i64 x1):=by
    rw [World.cell?_alloc_lt _ _ _ (by rw [b2t];exact Nat.lt_succ_self _)]
    exact (World.cell?_alloc_at (w:=w) _ _ _ _ rfl).trans rfl
  have c1:((w.alloc (.cells #[.int .i64 x1,.int .i64 x2,.string ⟨x3.toArray⟩] 101)).alloc (.cells #[.int .i64 y1,.int .i64 y2,.string ⟨y3.toArray⟩] 101)).cell? ⟨w.heap.size,1,none⟩ = some (.int .i64 x2):=by
    rw [World.cell?_alloc_lt _ _ _ (by rw [b2t];exact Nat.lt_succ_self _)]
    exact (World.cell?_alloc_at (w:=w) _ _ _ _ rfl).trans rfl
  have c2:((w.alloc (.cells #[.int .i64 x1,.int .i64 x2,.string ⟨x3.toArray⟩] 101)).alloc (.cells #[.int .i64 y1,.int .i64 y2,.string ⟨y3.toArray⟩] 101)).cell? ⟨w.heap.size,2,none⟩ = some (.string ⟨x3.toArray⟩):=by
    rw [World.cell?_alloc_lt _ _ _ (by rw [b2t];exact Nat.lt_succ_self _)]
    exact (World.cell?_alloc_at (w:=w) _ _ _ _ rfl).trans rfl
  have d0:((w.alloc (.cells #[.int .i64 x1,.int .i64 x2,.string ⟨x3.toArray⟩] 101)).alloc (.cells #[.int .i64 y1,.int .i64 y2,.string ⟨y3.toArray⟩] 101)).cell? ⟨w.heap.size + 1,0,none⟩ = some (.int .i64 y1):=(World.cell?_alloc_at _ _ _ _ (b2t _ _).symm).trans rfl
  have d1:((w.alloc (.cells #[.int .i64 x1,.int .i64 x2,.string ⟨x3.toArray⟩] 101)).alloc (.cells #[.int .i64 y1,.int .i64 y2,.string ⟨y3.toArray⟩] 101)).cell? ⟨w.heap.size + 1,1,none⟩ = some (.int .i64 y2):=(World.cell?_alloc_at _ _ _ _ (b2t _ _).symm).trans rfl
  have d2:((w.alloc (.cells #[.int .i64 x1,.int .i64 x2,.string ⟨x3.toArray⟩] 101)).alloc (.cells #[.int .i64 y1,.int .i64 y2,.string ⟨y3.toArray⟩] 101)).cell? ⟨w.heap.size + 1,2,none⟩ = some (.string ⟨y3.toArray⟩):=(World.cell?_alloc_at _ _ _ _ (b2t _ _).symm).trans rfl
  have hsz:((w.alloc (.cells #[.int .i64 x1,.int .i64 x2,.string ⟨x3.toArray⟩] 101)).alloc (.cells #[.int .i64 y1,.int .i64 y2,.string ⟨y3.toArray⟩] 101)).heap.size = w.heap.size + 2:=by rw [b2t,b2t]
  have hgrow:Shut (((w.alloc (.cells #[.int .i64 x1,.int .i64 x2,.string ⟨x3.toArray⟩] 101)).alloc (.cells #[.int .i64 y1,.int .i64 y2,.string ⟨y3.toArray⟩] 101)) = grow w #[(.cells #[.int .i64 x1,.int .i64 x2,.string ⟨x3.toArray⟩] 101),(.cells #[.int .i64 y1,.int .i64 y2,.string ⟨y3.toArray⟩] 101)]):=by unfold Shut;rw [alloc_eq_grow,alloc_eq_grow,grow_grow];rfl
  generalize ((w.alloc (.cells #[.int .i64 x1,.int .i64 x2,.string ⟨x3.toArray⟩] 101)).alloc (.cells #[.int .i64 y1,.int .i64 y2,.string ⟨y3.toArray⟩] 101)) = W at *
  generalize w.heap.size = n at *
  have e0:(W.alloc (.cells #[.int .i64 (b6z x1 y1),.int .i64 (b6z x2 y2),.int .i64 r3] 3)).drew.cell? ⟨n + 2,0,none⟩ = some (.int .i64 (b6z x1 y1)):=(World.cell?_alloc_at (w:=W) _ _ _ _ hsz.symm).trans rfl
  have e1:(W.alloc (.cells #[.int .i64 (b6z x1 y1),.int .i64 (b6z x2 y2),.int .i64 r3] 3)).drew.cell? ⟨n + 2,1,none⟩ = some (.int .i64 (b6z x2 y2)):=(World.cell?_alloc_at (w:=W) _ _ _ _ hsz.symm).trans rfl
  have e2:(W.alloc (.cells #[.int .i64 (b6z x1 y1),.int .i64 (b6z x2 y2),.int .i64 r3] 3)).drew.cell? ⟨n + 2,2,none⟩ = some (.int .i64 r3):=(World.cell?_alloc_at (w:=W) _ _ _ _ hsz.symm).trans rfl
  have h4:=e5w (n + 2) (b6z x1 y1) (b6z x2 y2) r3 _ e0 e1 e2
  clear e0 e1 e2
  go_region_held (fun w' => w'.cell? ⟨n,0,none⟩ = some (.int .i64 x1) ∧ w'.cell? ⟨n,1,none⟩ = some (.int .i64 x2) ∧ w'.cell? ⟨n,2,none⟩ = some (.string ⟨x3.toArray⟩) ∧ w'.cell? ⟨n + 1,0,none⟩ = some (.int .i64 y1) ∧ w'.cell? ⟨n + 1,1,none⟩ = some (.int .i64 y2) ∧ w'.cell? ⟨n + 1,2,none⟩ = some (.string ⟨y3.toArray⟩)) (go_keep) (first
    | (go_at_call 249;refine (e3i _ _ _).mono ?_;rintro e w' ⟨rfl,rfl⟩)
    | (go_at_call 305;refine (h3 _).mono ?_;rintro e w' ⟨rfl,rfl⟩)
    | (go_at_call 304;refine h4.mono ?_;rintro e w' ⟨rfl,rfl⟩))
  have hg:W = _:=hgrow
  subst hg
  go_wp2
  go_ret
  exact ⟨rfl,1,_,by rw [alloc_eq_grow,grow_grow];rfl⟩
end Go.R
