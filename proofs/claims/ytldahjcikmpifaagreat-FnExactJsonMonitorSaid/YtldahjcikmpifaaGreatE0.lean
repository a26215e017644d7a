import Derived.Test.YtldahjcikmpifaaGreatD2
import Derived.KernelRfl
set_option linter.all false
namespace Go.R
open Go
abbrev Str:=List UInt8
def encI (n:Int):AV:=.int .i64 n
def e4x (n:Int):AV:=.int .u8 n
def encL {α:Type} (z:Nat) (f:α → AV) (l:List α):AV:=.lst z (l.map f)
def d3s:Nat → List AV → List (Nat × AV)
 | _,[] => []
 | k,a :: as => (k,a) :: d3s (k + 1) as
theorem d0f:∀ (as:List AV) (k n:Nat),ofL (d3s k as) n = if k ≤ n then as.getD (n - k) .undef else .undef
 | [],k,n => by simp [d3s,ofL]
 | a :: as,k,n => by
  simp only [d3s,ofL,d0f as (k + 1) n]
  by_cases h:n = k
  ·subst h; simp
  ·rw [if_neg h]
   by_cases h2:k ≤ n
   ·have h3:n - k = (n - (k + 1)) + 1:=by omega
    rw [if_pos h2,if_pos (by omega),h3,List.getD_cons_succ]
   ·rw [if_neg h2,if_neg (by omega)]
theorem a0l (as:List AV):c4y as = ofL (d3s 0 as):=by
 funext n
 rw [d0f]
 simp [c4y]
def gs (v b:Bool) (V:AV):AV:=if v = b then V else .skip
theorem a0c {v b:Bool} (h:v = b) {V:AV}:gs v b V = V:=if_pos h
theorem lenV {α:Type} (f:α → AV) (l:List α):AV.int .i64 ((l.map f).length:Int) = AV.int .i64 l.length:=by rw [List.length_map]
section
variable {P:Program} {dm:Md} {bs:List (Nat × AV)} {h:List y9} {n:b0f} {d:Nat} {K:(Nat → AV) → List y9 → Prop}
theorem s_g {op:AOp} {s:Nat} {b v:Bool} (V:AV) (ht:ofL bs s = .bool v) (hon:v = b → op.quiet = true ∧ aqQ dm.m op (AX.ev (ofL bs)) h ∧ aqV op (AX.ev (ofL bs)) h = V) (hn:a5g P dm n (ofL ((d,gs v b V) :: bs)) h K):a5g P dm (.q ⟨some d,some (s,b),op⟩ n) (ofL bs) h K:=by
 by_cases hv:v = b
 ·obtain ⟨h1,h2,h3⟩:=hon hv
  rw [a0c hv] at hn
  subst hv
  exact s_on ht (o7 V h1 h2 h3 hn)
 ·have e:gs v b V = .skip:=if_neg hv
  rw [e] at hn
  exact y5 ht (by cases v <;> cases b <;> simp_all) hn
theorem c0e {op:AOp} {s:Nat} {b1 b2 v1 v2:Bool} (V:AV) (ht:ofL bs s = gs v1 b1 (.bool v2)) (hon:v1 = b1 → v2 = b2 → op.quiet = true ∧ aqQ dm.m op (AX.ev (ofL bs)) h ∧ aqV op (AX.ev (ofL bs)) h = V) (hn:a5g P dm n (ofL ((d,gs v1 b1 (gs v2 b2 V)) :: bs)) h K):a5g P dm (.q ⟨some d,some (s,b2),op⟩ n) (ofL bs) h K:=by
 by_cases hv:v1 = b1
 ·rw [a0c hv] at hn ht
  exact s_g V ht (hon hv) hn
 ·have e:∀ W,gs v1 b1 W = .skip:=fun W => if_neg hv
  rw [e] at hn ht
  exact a1g ht hn
theorem e3d {c a b:AX} {s:Nat} {v1 b1 v2 x y:Bool} (ht:ofL bs s = .bool v1) (hc:v1 = b1 → c.ev (ofL bs) = .bool v2) (h1:v1 = b1 → v2 = true → a.ev (ofL bs) = .bool x) (h2:v1 = b1 → v2 = false → b.ev (ofL bs) = .bool y) (hn:a5g P dm n (ofL ((d,gs v1 b1 (.bool (bif v2 then x else y))) :: bs)) h K):a5g P dm (.q ⟨some d,some (s,b1),.pick c a b⟩ n) (ofL bs) h K:=by
 refine s_g _ ht (fun hv => ⟨rfl,.of ?_ trivial,?_⟩) hn
 ·simp only [aqP,hc hv]; cases v2 <;> trivial
 ·simp only [aqV,hc hv]
  cases v2 with
  | true => simpa using h1 hv rfl
  | false => simpa using h2 hv rfl
theorem a3a {c a b:AX} {v x y:Bool} (hc:c.ev (ofL bs) = .bool v) (h1:v = true → a.ev (ofL bs) = .bool x) (h2:v = false → b.ev (ofL bs) = .bool y) (hn:a5g P dm n (ofL ((d,.bool (bif v then x else y)) :: bs)) h K):a5g P dm (.q ⟨some d,none,.pick c a b⟩ n) (ofL bs) h K:=by
 refine o7 (.bool (bif v then x else y)) rfl (.of ?_ trivial) ?_ hn
 ·simp only [aqP,hc]; cases v <;> trivial
 ·simp only [aqV,hc]
  cases v with
  | true => simpa using h1 rfl
  | false => simpa using h2 rfl
end
abbrev tq (d:Nat) (o:AOp) (n:b0f):b0f:=.q ⟨some d,none,o⟩ n
abbrev tm (d:Nat) (x:AX) (n:b0f):b0f:=.q ⟨some d,none,.mov x⟩ n
abbrev tg (d s:Nat) (b:Bool) (o:AOp) (n:b0f):b0f:=.q ⟨some d,some (s,b),o⟩ n
def d3t (l:List Int):Str:=l.map fun n => UInt8.ofNat n.toNat
section
variable {P:Program} {dm:Md} {bs:List (Nat × AV)} {h:List y9} {x:AX}
theorem d8t {l:List Int} {o n:Nat} (hx:x.ev (ofL bs) = .own o 0 n) (ho:h[o]? = some (.row 1 (l.map e4x))) (hn:n = l.length):Opr P dm (.convBS x) bs h (.str (d3t l)) h:=fun k hk => by
 subst hn
 simp only [a4s,hx,b4b,ho,if_pos]
 exact ⟨l,by rw [List.drop_zero,List.take_of_length_le (by simp)]; rfl,hk⟩
end
@[irreducible] def FUEL:Nat:=2 ^ 100
theorem LeL.repm {α:Type} {enc:α → AV} {z:AV} {x:α} (h:Le z (enc x)) (n:Nat):LeL (List.replicate n z) ((List.replicate n x).map enc):=by
 rw [← R.repm]
 exact LeL.rep h n
section
variable {P:Program} {dm:Md} {n0:Nat} {bs:List (Nat × AV)} {h h2:List y9} {z:Nat} {α:Type} {l l':List α} {enc:α → AV}
end
section
variable {P:Program} {dm:Md} {n0:Nat} {bs:List (Nat × AV)} {h h2:List y9} {z:Nat} {α:Type} {l l':List α} {enc:α → AV}
end
section
variable {α:Type} {l:List α} {enc:α → AV} {z i:Nat} {el':AV}
end
section
variable {α:Type} {enc:α → AV}
end
def e5v {α β:Type} (o:Option α) (f:α → Option β) (g:Option β):Option β:=match o with
 | some x => f x
 | none => g
theorem oo {α β:Type} {o:Option α} {f:α → Option β} {g:Option β} {r:β} (h:e5v o f g = some r):(∃ x,o = some x ∧ f x = some r) ∨ (o = none ∧ g = some r):=by
 cases o with
 | some x => exact .inl ⟨x,rfl,h⟩
 | none => exact .inr ⟨rfl,h⟩
abbrev AV.I (n : Int) : AV := .int .i64 n
theorem tr : True := trivial
theorem Le.r {a : AV} : Le a a := .refl a
theorem LeL.r {a : List AV} : LeL a a := .refl a
theorem LeO.r {a : y9} : LeO a a := .refl a
theorem LeH.r {a : List y9} : LeH a a := .refl a
end Go.R
