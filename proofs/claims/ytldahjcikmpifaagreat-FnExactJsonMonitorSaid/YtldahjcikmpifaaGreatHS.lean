import Derived.Test.YtldahjcikmpifaaGreatH2
import Derived.Shelf.SlSortCmp.NoneTotal
import Derived.Test.YtldahjcikmpifaaGreatRows
set_option linter.all false
namespace Go.R
open Go Go.Proofs Go.RowKit
set_option maxHeartbeats 400000
open Go.Sort
set_option maxRecDepth 100000 in
theorem e3g (a b:ByteArray) (w:World):Calls Tryz.prog 351 #[.string a,.string b] w fun e w' => e = .returned (.int .i64 (Lib.compareBytes a.data.toList b.data.toList)) ∧ w' = w:=by
  go_enter Tryz.func351,(show Tryz.f351.ntmps = 8 from rfl)
  go_wp2
  rw [run_callFunc_extern Tryz.func384 (by kernel_rfl) (by kernel_rfl) (by kernel_rfl) (e:=Extern.BytealgCompare.compare) (by kernel_rfl),Lib.run_compareString]
  simp only [Result.andThen]
  rw [Oper.upon_value]
  go_wp2
  go_ret
  exact ⟨rfl,rfl⟩
set_option maxRecDepth 100000 in
theorem e3h (a b:ByteArray) (w:World):Calls Tryz.prog 305 #[.string a,.string b] w fun e w' => e = .returned (.int .i64 (Lib.compareBytes a.data.toList b.data.toList)) ∧ w' = w:=by
  have hcon:=fun W => e3g a b W
  generalize Lib.compareBytes a.data.toList b.data.toList = r at hcon ⊢
  go_enter Tryz.func305,(show Tryz.f305.ntmps = 8 from rfl)
  go_wp2_with (go_at_call 351; refine (hcon _).mono ?_; rintro e w' ⟨rfl,rfl⟩)
  go_ret
  exact ⟨rfl,rfl⟩
def b6z (x y:Int):Int:=if x < y then -1 else if x > y then 1 else 0
set_option maxRecDepth 100000 in
theorem e3i (x y:Int) (w:World):Calls Tryz.prog 249 #[.int .i64 x,.int .i64 y] w fun e w' => e = .returned (.int .i64 (b6z x y)) ∧ w' = w:=by
  unfold b6z
  go_enter Tryz.func249,(show Tryz.f249.ntmps = 20 from rfl)
  go_wp2
  all_goals (go_ret; exact ⟨rfl,rfl⟩)
def orI (x y z:Int):Int:=if x = 0 then (if y = 0 then z else y) else x
set_option maxRecDepth 100000 in
theorem e5w (b:Nat) (x y z:Int) (w:World) (h0:w.cell? ⟨b,0,none⟩ = some (.int .i64 x)) (h1:w.cell? ⟨b,1,none⟩ = some (.int .i64 y)) (h2:w.cell? ⟨b,2,none⟩ = some (.int .i64 z)) :
    Calls Tryz.prog 304 #[.slice (some ⟨b,0,none⟩) 3 3] w fun e w' => e = .returned (.int .i64 (orI x y z)) ∧ w' = w:=by
  go_enter Tryz.func304,(show Tryz.f304.ntmps = 18 from rfl)
  go_wp2
  refine wp_loop_rounds 4 ?_
  rw [rounds_succ]
  go_wp2
  · rename_i hx
    go_ret
    have hx':x ≠ 0:=by simpa using hx
    exact ⟨congrArg (fun n => Ending.returned (.int .i64 n)) (show x = orI x y z by simp [orI,hx']),rfl⟩
  have hx0:x = 0:=by simpa using (show (x != 0) = false by assumption)
  rw [rounds_succ]
  go_wp2
  · rename_i hy
    go_ret
    have hy':y ≠ 0:=by simpa using hy
    exact ⟨congrArg (fun n => Ending.returned (.int .i64 n)) (show y = orI x y z by simp [orI,hx0,hy']),rfl⟩
  have hy0:y = 0:=by simpa using (show (y != 0) = false by assumption)
  rw [rounds_succ]
  go_wp2
  · go_ret
    exact ⟨congrArg (fun n => Ending.returned (.int .i64 n)) (show z = orI x y z by simp [orI,hx0,hy0]),rfl⟩
  have hz0:z = 0:=by simpa using (show (z != 0) = false by assumption)
  rw [rounds_succ]
  go_wp2
  go_ret
  exact ⟨congrArg (fun n => Ending.returned (.int .i64 n)) (show (0:Int) = orI x y z by simp [orI,hx0,hy0,hz0]),rfl⟩
theorem step_callI {P:Program} {ops:Array Oper} {o:Oper} {a:Act} {w:World} {K:Act → World → Prop} {Q:Exit → Act → World → Prop} {E:Prop}
    (hg:o.guard = none) (f:FuncId) (args:Array Value) (v:Value) (hrun:(execOp a.eval o).run P w = .ok (.enter f args) w) (hcon:Calls P f args w fun e w' => e = .returned v ∧ w' = w) (hK:K (a.put o.dst v) w) :
    if Region.wanted o (yielded ops a.tmps) = true then Oper.wp P o a w K Q else E:=by
  have hw:Region.wanted o (yielded ops a.tmps) = true:=by simp [Region.wanted,hg]
  rw [if_pos hw]
  unfold Oper.wp
  rw [hrun,Oper.upon_enter]
  refine hcon.mono ?_
  rintro e w' ⟨rfl,rfl⟩
  exact hK
def cfA (x y:Int × Int × List UInt8):Int:=orI (b6z x.1 y.1) (b6z x.2.1 y.2.1) (Lib.compareBytes x.2.2 y.2.2)
def vA (x:Int × Int × List UInt8):List Value:=[.int .i64 x.1,.int .i64 x.2.1,.string ⟨x.2.2.toArray⟩]
end Go.R
