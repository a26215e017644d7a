/- Names that the walks use. -/
import Derived.Test.YtldahjcikmpifaaGreatD2
import Derived.KernelRfl
set_option linter.all false
namespace Go.R
open Go
abbrev Str:=List UInt8
def encI (n:Int):AV:=.int .i64 n
def a0q (n:Int):AV:=.int .u8 n
def a4z {α:Type} (z:Nat) (f:α → AV) (l:List α):AV:=.lst z (l.map f)
def d0w:Nat → List AV → List (Nat × AV)
  | _,[] => []
  | k,a :: as => (k,a) :: d0w (k + 1) as
theorem c7c:∀ (as:List AV) (k n:Nat),ofL (d0w k as) n = if k ≤ n then as.getD (n - k) .undef else .undef
  | [],k,n => by simp [d0w,ofL]
  | a :: as,k,n => by
    simp only [d0w,ofL,c7c as (k + 1) n]
    by_cases h:n = k
    · subst h; simp
    · rw [if_neg h]
      by_cases h2:k ≤ n
      · have h3:n - k = (n - (k + 1)) + 1:=by omega
        rw [if_pos h2,if_pos (by omega),h3,List.getD_cons_succ]
      · rw [if_neg h2,if_neg (by omega)]
theorem a0f (as:List AV):c2i as = ofL (d0w 0 as):=by
  funext n
  rw [c7c]
  simp [c2i]
def gs (v b:Bool) (V:AV):AV:=if v = b then V else .skip
theorem a0g {v b:Bool} (h:v = b) {V:AV}:gs v b V = V:=if_pos h
theorem lenV {α:Type} (f:α → AV) (l:List α):AV.int .i64 ((l.map f).length:Int) = AV.int .i64 l.length:=by rw [List.length_map]
section
variable {P:Program} {dm:Md} {bs:List (Nat × AV)} {h:List o9} {n:a9c} {d:Nat} {K:(Nat → AV) → List o9 → Prop}
theorem s_g {op:AOp} {s:Nat} {b v:Bool} (V:AV) (ht:ofL bs s = .bool v) (hon:v = b → op.quiet = true ∧ aqQ dm.m op (AX.ev (ofL bs)) h ∧ aqV op (AX.ev (ofL bs)) h = V) (hn:a4w P dm n (ofL ((d,gs v b V) :: bs)) h K):a4w P dm (.q ⟨some d,some (s,b),op⟩ n) (ofL bs) h K:=by
  by_cases hv:v = b
  · obtain ⟨h1,h2,h3⟩:=hon hv
    rw [a0g hv] at hn
    subst hv
    exact s_on ht (o7 V h1 h2 h3 hn)
  · have e:gs v b V = .skip:=if_neg hv
    rw [e] at hn
    exact a0a ht (by cases v <;> cases b <;> simp_all) hn
theorem e1y {op:AOp} {s:Nat} {b1 b2 v1 v2:Bool} (V:AV) (ht:ofL bs s = gs v1 b1 (.bool v2)) (hon:v1 = b1 → v2 = b2 → op.quiet = true ∧ aqQ dm.m op (AX.ev (ofL bs)) h ∧ aqV op (AX.ev (ofL bs)) h = V) (hn:a4w P dm n (ofL ((d,gs v1 b1 (gs v2 b2 V)) :: bs)) h K):a4w P dm (.q ⟨some d,some (s,b2),op⟩ n) (ofL bs) h K:=by
  by_cases hv:v1 = b1
  · rw [a0g hv] at hn ht
    exact s_g V ht (hon hv) hn
  · have e:∀ W,gs v1 b1 W = .skip:=fun W => if_neg hv
    rw [e] at hn ht
    exact a2s ht hn
theorem e6i {c a b:AX} {s:Nat} {v1 b1 v2 x y:Bool} (ht:ofL bs s = .bool v1) (hc:v1 = b1 → c.ev (ofL bs) = .bool v2) (h1:v1 = b1 → v2 = true → a.ev (ofL bs) = .bool x) (h2:v1 = b1 → v2 = false → b.ev (ofL bs) = .bool y) (hn:a4w P dm n (ofL ((d,gs v1 b1 (.bool (bif v2 then x else y))) :: bs)) h K):a4w P dm (.q ⟨some d,some (s,b1),.pick c a b⟩ n) (ofL bs) h K:=by
  refine s_g _ ht (fun hv => ⟨rfl,.of ?_ trivial,?_⟩) hn
  · simp only [aqP,hc hv]; cases v2 <;> trivial
  · simp only [aqV,hc hv]
    cases v2 with
    | true => simpa using h1 hv rfl
    | false => simpa using h2 hv rfl
theorem a5a {c a b:AX} {v x y:Bool} (hc:c.ev (ofL bs) = .bool v) (h1:v = true → a.ev (ofL bs) = .bool x) (h2:v = false → b.ev (ofL bs) = .bool y) (hn:a4w P dm n (ofL ((d,.bool (bif v then x else y)) :: bs)) h K):a4w P dm (.q ⟨some d,none,.pick c a b⟩ n) (ofL bs) h K:=by
  refine o7 (.bool (bif v then x else y)) rfl (.of ?_ trivial) ?_ hn
  · simp only [aqP,hc]; cases v <;> trivial
  · simp only [aqV,hc]
    cases v with
    | true => simpa using h1 rfl
    | false => simpa using h2 rfl
end
abbrev tq (d:Nat) (o:AOp) (n:a9c):a9c:=.q ⟨some d,none,o⟩ n
abbrev tm (d:Nat) (x:AX) (n:a9c):a9c:=.q ⟨some d,none,.mov x⟩ n
abbrev tg (d s:Nat) (b:Bool) (o:AOp) (n:a9c):a9c:=.q ⟨some d,some (s,b),o⟩ n
def bstr (l:List Int):Str:=l.map fun n => UInt8.ofNat n.toNat
section
variable {P:Program} {dm:Md} {bs:List (Nat × AV)} {h:List o9} {x:AX}
end
@[irreducible] def FUEL:Nat:=2 ^ 100
theorem LeL.repm {α:Type} {enc:α → AV} {z:AV} {x:α} (h:Le z (enc x)) (n:Nat):LeL (List.replicate n z) ((List.replicate n x).map enc):=by
  rw [← R.repm]
  exact LeL.rep h n
section
variable {P:Program} {dm:Md} {n0:Nat} {bs:List (Nat × AV)} {h h2:List o9} {z:Nat} {α:Type} {l l':List α} {enc:α → AV}
end
section
variable {P:Program} {dm:Md} {n0:Nat} {bs:List (Nat × AV)} {h h2:List o9} {z:Nat} {α:Type} {l l':List α} {enc:α → AV}
end
section
variable {α:Type} {l:List α} {enc:α → AV} {z i:Nat} {el':AV}
end
section
variable {α:Type} {enc:α → AV}
end
def e1z {α β:Type} (o:Option α) (f:α → Option β) (g:Option β):Option β:=match o with
  | some x => f x
  | none => g
theorem oo {α β:Type} {o:Option α} {f:α → Option β} {g:Option β} {r:β} (h:e1z o f g = some r):(∃ x,o = some x ∧ f x = some r) ∨ (o = none ∧ g = some r):=by
  cases o with
  | some x => exact .inl ⟨x,rfl,h⟩
  | none => exact .inr ⟨rfl,h⟩
end Go.R
