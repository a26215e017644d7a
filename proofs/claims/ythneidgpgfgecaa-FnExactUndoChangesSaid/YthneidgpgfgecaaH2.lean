/- Steps of the library's slices functions, seen from below. -/
import Derived.Test.YthneidgpgfgecaaE0
import Derived.Test.YthneidgpgfgecaaH1
import Derived.Lib.AppendZerosOnto
import Derived.Lib.Overlaps
import Derived.Shelf.RegionOpenPlain
import Derived.Shelf.Small.Strs
set_option linter.all false
namespace Go.R
open Go Go.RowKit
set_option linter.all false

section
variable {P:Program}
theorem step_copy_runI {ops:Array Oper} {o:Oper} {a:Act} {w:World} {K:Act → World → Prop} {Q:Exit → Act → World → Prop} {E:Prop}
    (hg:o.guard = none) (d x:Operand) (dT sT:TypeId) (hop:o.op = Op.call { callee:=Callee.builtin Builtin.copy,args:=#[d,x],argTypes:=#[dT,sT] })
    (v u:Value) (hd:a.eval d = v) (hx:a.eval x = u) {v':Value} {w':World} (hr:(Builtin.copy_ #[dT,sT] o.type #[v,u]).run P w = .ok v' w') (hK:K (a.put o.dst v') w') :
    if Region.wanted o (yielded ops a.tmps) = true then Oper.wp P o a w K Q else E:=by
  have hw:Region.wanted o (yielded ops a.tmps) = true:=by simp [Region.wanted,hg]
  rw [if_pos hw]
  unfold Oper.wp
  simp [execOp,hop,resolve,invoke,builtin,hd,hx,hr,Result.andThen]
  exact hK

theorem c8p {w:World} {g:Nat} {cur:Array Value} {e:TypeId} {fz:Nat × Nat} (hg:w.heap[g]? = some (.cells cur e fz)) (off n:Nat):∀ j v,((cur.toList.take n).drop off)[j]? = some v → w.cell? ((⟨g,off,none⟩:Addr).add j) = some v:=by
  intro j v hj
  have hadd:(⟨g,off,none⟩:Addr).add j = ⟨g,off + j,none⟩:=by unfold Addr.add; split <;> simp_all
  rw [hadd,b3h hg]
  rw [List.getElem?_drop,List.getElem?_take] at hj
  split at hj
  · simpa using hj
  · cases hj
theorem d3v {t:TypeId} {s b:Nat} {z:Value} (h:(P.info? t).map (fun i => (i.size,i.bytes,i.zero)) = some (s,b,some z)):∃ i:TypeInfo,P.info? t = some i ∧ i.size = s ∧ i.bytes = b ∧ i.zero = some z:=by
  cases hi:P.info? t with
  | none => rw [hi] at h; cases h
  | some i =>
    rw [hi] at h
    simp only [Option.map_some,Option.some.injEq,Prod.mk.injEq] at h
    exact ⟨i,rfl,h.1,h.2.1,h.2.2⟩
theorem c4q {l:List Value} {a b:Nat}:(l.take b).drop a = (l.drop a).take (b - a):=by rw [List.drop_take]

theorem d4y {cur vs:List Value} {i m n z:Nat} (hi:i ≤ n) (hl:(n + m) * z ≤ cur.length) (hv:vs.length = m * z) {A1 A2:Array Value}
    (h1:A1 = (cur.take ((i + m) * z) ++ (cur.take (n * z)).drop (i * z) ++ cur.drop ((i + m) * z + ((cur.take (n * z)).drop (i * z)).length)).toArray)
    (h2:A2 = (A1.toList.take (i * z) ++ vs ++ A1.toList.drop (i * z + vs.length)).toArray) :
    A1.size = cur.length ∧ A2.size = cur.length ∧ A2.toList.take ((i + m + (n - i)) * z) = cur.take (i * z) ++ vs ++ (cur.drop (i * z)).take ((n - i) * z):=by
  have e1:i * z ≤ n * z:=Nat.mul_le_mul_right _ hi
  have e2:(n - i) * z = n * z - i * z:=Nat.sub_mul _ _ _
  have e3:(n + m) * z = n * z + m * z:=Nat.add_mul _ _ _
  have e4:(i + m) * z = i * z + m * z:=Nat.add_mul _ _ _
  have e5:(i + m + (n - i)) * z = i * z + m * z + (n * z - i * z):=by rw [Nat.add_mul,e4,e2]
  have hcs:((cur.take (n * z)).drop (i * z)).length = n * z - i * z:=by rw [List.length_drop,List.length_take]; omega
  have hX:(cur.take ((i + m) * z)).length = (i + m) * z:=by rw [List.length_take]; omega
  have hA1:A1.toList = cur.take ((i + m) * z) ++ ((cur.take (n * z)).drop (i * z) ++ cur.drop ((i + m) * z + ((cur.take (n * z)).drop (i * z)).length)):=by rw [h1]; simp
  have t1:A1.toList.take (i * z) = cur.take (i * z):=by
    rw [hA1,List.take_append_of_le_length (by rw [hX]; omega),List.take_take]
    congr 1
    omega
  have t2:A1.toList.drop (i * z + vs.length) = (cur.take (n * z)).drop (i * z) ++ cur.drop ((i + m) * z + ((cur.take (n * z)).drop (i * z)).length):=by
    rw [hA1,hv,← e4,List.drop_left' hX]
  have hT:(cur.take (i * z)).length = i * z:=by rw [List.length_take]; omega
  have s1:A1.size = cur.length:=by
    have:A1.toList.length = cur.length:=by
      rw [hA1,List.length_append,List.length_append,hX,hcs,List.length_drop]
      omega
    simpa using this
  refine ⟨s1,?_,?_⟩
  · rw [h2,List.size_toArray,List.length_append,List.length_append,t1,t2,hT,hv,List.length_append,hcs,List.length_drop]
    omega
  · rw [h2]
    simp only [t1,t2]
    rw [List.append_assoc (cur.take (i * z)),e5,Nat.add_assoc,take_add hT,take_add hv,List.take_left' hcs,c4q,e2,List.append_assoc]
theorem d2p {cur vs:List Value} {R:List Value} {i m n z:Nat} (hi:i ≤ n) (hl:n * z ≤ cur.length) (hv:vs.length = m * z) (hR:(n + m) * z ≤ i * z + R.length) {B1 B2:Array Value}
    (h1:B1 = (cur.take (i * z) ++ vs ++ R.drop vs.length).toArray)
    (h2:B2 = (B1.toList.take ((i + m) * z) ++ (cur.take (n * z)).drop (i * z) ++ B1.toList.drop ((i + m) * z + ((cur.take (n * z)).drop (i * z)).length)).toArray) :
    B1.size = i * z + R.length ∧ B2.size = i * z + R.length ∧ B2.toList.take ((i + m + (n - i)) * z) = cur.take (i * z) ++ vs ++ (cur.drop (i * z)).take ((n - i) * z):=by
  have e1:i * z ≤ n * z:=Nat.mul_le_mul_right _ hi
  have e2:(n - i) * z = n * z - i * z:=Nat.sub_mul _ _ _
  have e3:(n + m) * z = n * z + m * z:=Nat.add_mul _ _ _
  have e4:(i + m) * z = i * z + m * z:=Nat.add_mul _ _ _
  have e5:(i + m + (n - i)) * z = (i + m) * z + (n * z - i * z):=by rw [Nat.add_mul,e2]
  have hcs:((cur.take (n * z)).drop (i * z)).length = n * z - i * z:=by rw [List.length_drop,List.length_take]; omega
  have hT:(cur.take (i * z)).length = i * z:=by rw [List.length_take]; omega
  have hTV:(cur.take (i * z) ++ vs).length = (i + m) * z:=by rw [List.length_append,hT,hv,e4]
  have t1:B1.toList.take ((i + m) * z) = cur.take (i * z) ++ vs:=by rw [h1]; exact List.take_left' hTV
  have s1:B1.toList.length = i * z + R.length:=by
    rw [h1,List.length_append,hTV,List.length_drop,hv]
    omega
  refine ⟨by simpa using s1,?_,?_⟩
  · rw [h2,List.size_toArray,List.length_append,List.length_append,t1,hTV,hcs,List.length_drop,s1]
    omega
  · rw [h2]
    simp only [t1]
    rw [List.append_assoc (cur.take (i * z) ++ vs),e5,take_add hTV,List.take_left' hcs,c4q,e2]
end
end Go.R
