/- Names that the walks use. -/
import Derived.Test.YthneidgpgfgecaaD2
import Derived.KernelRfl
set_option linter.all false
namespace Go.R
open Go
abbrev Str:=List UInt8
def encI (n:Int):AV:=.int .i64 n
def d7c (n:Int):AV:=.int .u8 n
def o8 {α:Type} (z:Nat) (f:α → AV) (l:List α):AV:=.lst z (l.map f)
def c7e:Nat → List AV → List (Nat × AV)
  | _,[] => []
  | k,a :: as => (k,a) :: c7e (k + 1) as
theorem c3u:∀ (as:List AV) (k n:Nat),ofL (c7e k as) n = if k ≤ n then as.getD (n - k) .undef else .undef
  | [],k,n => by simp [c7e,ofL]
  | a :: as,k,n => by
    simp only [c7e,ofL,c3u as (k + 1) n]
    by_cases h:n = k
    · subst h; simp
    · rw [if_neg h]
      by_cases h2:k ≤ n
      · have h3:n - k = (n - (k + 1)) + 1:=by omega
        rw [if_pos h2,if_pos (by omega),h3,List.getD_cons_succ]
      · rw [if_neg h2,if_neg (by omega)]
theorem a0t (as:List AV):c4x as = ofL (c7e 0 as):=by
  funext n
  rw [c3u]
  simp [c4x]
def gs (v b:Bool) (V:AV):AV:=if v = b then V else .skip
theorem a7f {v b:Bool} (h:v = b) {V:AV}:gs v b V = V:=if_pos h
theorem lenV {α:Type} (f:α → AV) (l:List α):AV.int .i64 ((l.map f).length:Int) = AV.int .i64 l.length:=by rw [List.length_map]
section
variable {P:Program} {dm:Md} {bs:List (Nat × AV)} {h:List o9} {n:a8b} {d:Nat} {K:(Nat → AV) → List o9 → Prop}
theorem s_g {op:AOp} {s:Nat} {b v:Bool} (V:AV) (ht:ofL bs s = .bool v) (hon:v = b → op.quiet = true ∧ aqQ dm.m op (AX.ev (ofL bs)) h ∧ aqV op (AX.ev (ofL bs)) h = V) (hn:a5s P dm n (ofL ((d,gs v b V) :: bs)) h K):a5s P dm (.q ⟨some d,some (s,b),op⟩ n) (ofL bs) h K:=by
  by_cases hv:v = b
  · obtain ⟨h1,h2,h3⟩:=hon hv
    rw [a7f hv] at hn
    subst hv
    exact s_on ht (y8 V h1 h2 h3 hn)
  · have e:gs v b V = .skip:=if_neg hv
    rw [e] at hn
    exact a1m ht (by cases v <;> cases b <;> simp_all) hn
theorem c8t {c a b:AX} {v x y:Bool} (hc:c.ev (ofL bs) = .bool v) (h1:v = true → a.ev (ofL bs) = .bool x) (h2:v = false → b.ev (ofL bs) = .bool y) (hn:a5s P dm n (ofL ((d,.bool (bif v then x else y)) :: bs)) h K):a5s P dm (.q ⟨some d,none,.pick c a b⟩ n) (ofL bs) h K:=by
  refine y8 (.bool (bif v then x else y)) rfl (.of ?_ trivial) ?_ hn
  · simp only [aqP,hc]; cases v <;> trivial
  · simp only [aqV,hc]
    cases v with
    | true => simpa using h1 rfl
    | false => simpa using h2 rfl
end
abbrev tq (d:Nat) (o:AOp) (n:a8b):a8b:=.q ⟨some d,none,o⟩ n
abbrev tm (d:Nat) (x:AX) (n:a8b):a8b:=.q ⟨some d,none,.mov x⟩ n
abbrev tg (d s:Nat) (b:Bool) (o:AOp) (n:a8b):a8b:=.q ⟨some d,some (s,b),o⟩ n
def c7g (l:List Int):Str:=l.map fun n => UInt8.ofNat n.toNat
section
variable {P:Program} {dm:Md} {bs:List (Nat × AV)} {h:List o9} {x:AX}
theorem d0x {l:List Int} {o n:Nat} (hx:x.ev (ofL bs) = .own o 0 n) (ho:h[o]? = some (.row 1 (l.map d7c))) (hn:n = l.length):Opr P dm (.convBS x) bs h (.str (c7g l)) h:=fun k hk => by
  subst hn
  simp only [a4x,hx,b1h,ho,if_pos]
  exact ⟨l,by rw [List.drop_zero,List.take_of_length_le (by simp)]; rfl,hk⟩
end
@[irreducible] def FUEL:Nat:=2 ^ 100
theorem LeL.repm {α:Type} {enc:α → AV} {z:AV} {x:α} (h:Le z (enc x)) (n:Nat):LeL (List.replicate n z) ((List.replicate n x).map enc):=by
  rw [← R.repm]
  exact LeL.rep h n
section
variable {P:Program} {dm:Md} {n0:Nat} {bs:List (Nat × AV)} {h h2:List o9} {z:Nat} {α:Type} {l l':List α} {enc:α → AV}
end
section
variable {P:Program} {dm:Md} {n0:Nat} {bs:List (Nat × AV)} {h h2:List o9} {z:Nat} {α:Type} {l l':List α} {enc:α → AV}
end
section
variable {α:Type} {l:List α} {enc:α → AV} {z i:Nat} {el':AV}
end
section
variable {α:Type} {enc:α → AV}
end
def d8c {α β:Type} (o:Option α) (f:α → Option β) (g:Option β):Option β:=match o with
  | some x => f x
  | none => g
theorem oo {α β:Type} {o:Option α} {f:α → Option β} {g:Option β} {r:β} (h:d8c o f g = some r):(∃ x,o = some x ∧ f x = some r) ∨ (o = none ∧ g = some r):=by
  cases o with
  | some x => exact .inl ⟨x,rfl,h⟩
  | none => exact .inr ⟨rfl,h⟩
end Go.R
