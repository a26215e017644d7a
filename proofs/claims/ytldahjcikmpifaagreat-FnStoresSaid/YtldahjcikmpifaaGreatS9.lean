/- Part of the proof. -/
import Derived.Test.YtldahjcikmpifaaGreatS7

section
set_option linter.all false
namespace Go.R
open Go
def f5d:List a2z → Nat → Nat → a1j → a1j
  | _,_,0,T => T
  | [],_,_ + 1,_ => .fail
  | r :: rs,d,n + 1,T => bif r.dst == some d then .q r (f5d rs (d + 1) n T) else f5d rs d (n + 1) T
def e5w:Nat → List a2z → List (List Nat) → a1j × List (List Nat)
  | 0,_,l => (.fail,l)
  | _ + 1,_,[] => (.done,[])
  | _ + 1,_,[] :: l => (.done,l)
  | k + 1,rs,[d] :: l => match e5w k rs l with
    | (t,l1) => (f3o rs d 1 t,l1)
  | k + 1,rs,(d :: 0 :: 0 :: re) :: l => match pkT rs d with
    | some r => match e5w k rs l with
      | (t,l1) => match e5w k rs l1 with
        | (o,l2) => (.l r (re.filterMap (pkT rs)) t o,l2)
    | none => (.fail,l)
  | k + 1,rs,(d :: 0 :: re) :: l => match pkT rs d with
    | some r => match e5w k rs l with
      | (t,l1) => (.l r (re.filterMap (pkT rs)) t .non,l1)
    | none => (.fail,l)
  | k + 1,rs,(d :: e :: _) :: l => match e5w k rs l with
    | (t,l1) => (f5d rs d (e + 1 - d) t,l1)
def c3o (sp:List (Nat × List (List Nat))) (P:Program) (N:Nat):Code → Nat → Option a0m × Nat
  | .region i ops draw,k => match sp.lookup k with
    | some ([] :: _) => (some (.reg .fail),k + 1)
    | o => match ocs P ops N ops.toList with
      | none => (none,k + 1)
      | some rs => match draw,o with
        | false,_ => (some (.reg (lin rs)),k + 1)
        | true,some o => (some (.reg (e5w 400 rs o).1),k + 1)
        | true,none => (a7s P N (.region i ops true),k + 1)
  | .seq a b,k => match c3o sp P N a k with
    | (some a,k) => match c3o sp P N b k with
      | (some b,k) => (some (.seq a b),k)
      | (none,k) => (none,k)
    | (none,k) => (none,k)
  | .cond c a b,k => match cx c with
    | some c => match c3o sp P N a k with
      | (some a,k) => match c3o sp P N b k with
        | (some b,k) => (some (.cond c a b),k)
        | (none,k) => (none,k)
      | (none,k) => (none,k)
    | none => (none,k)
  | .block id c,k => match c3o sp P N c k with
    | (some c,k) => (some (.block id c),k)
    | (none,k) => (none,k)
  | .loop c,k => match c3o sp P N c k with
    | (some c,k) => (some (.loop c),k)
    | (none,k) => (none,k)
  | .scope c,k => c3o sp P N c k
  | c,k => (a7s P N c,k)
def b9j (sp:List (Nat × List (List Nat))) (P:Program) (fn:Func):Option (a0m × List AOp × Nat):=match fn.body,d2q P fn.results.toList with
  | some c,some s => match (c3o sp P fn.ntmps c 0).1 with
    | some a => some (a,s,fn.ntmps)
    | none => none
  | _,_ => none
def gtA (A:Nat → a0m → a0m) (ms:List Nat):Option (a0m × List AOp × Nat) → Option (a0m × List AOp × Nat)
  | some (c,s,N) => match cfr c with
    | true => some ((d5s A ms c 0).1,s,N)
    | false => none
  | none => none
def gtC (ms:List Nat):Option (a0m × List AOp × Nat) → Option (a0m × List AOp × Nat)
  | some (c,s,N) => match cfr c with
    | true => some ((d5q ms c 0).1,s,N)
    | false => none
  | none => none
theorem fTA {sp:List (Nat × List (List Nat))} {A:Nat → a0m → a0m} {ms:List Nat} {P:Program} {fn:Func} {x:a0m × List AOp × Nat} (h0:c0h [] P fn = b9j sp P fn:=by kernel_rfl) (h:gtA A ms (b9j sp P fn) = some x:=by conv => lhs; cbv):d5t [] A ms P fn = some x:=by
  unfold d5t; rw [h0]; rw [← h]
  cases b9j sp P fn <;> rfl
theorem fTC {sp:List (Nat × List (List Nat))} {ms:List Nat} {P:Program} {fn:Func} {x:a0m × List AOp × Nat} (h0:c0h [] P fn = b9j sp P fn:=by kernel_rfl) (h:gtC ms (b9j sp P fn) = some x:=by conv => lhs; cbv):d5r [] ms P fn = some x:=by
  unfold d5r; rw [h0]; rw [← h]
  cases b9j sp P fn <;> rfl
def mrg:a0m → a0m → a0m
  | .reg .fail,b => b
  | .seq a b,.seq a' b' => .seq (mrg a a') (mrg b b')
  | .cond x a b,.cond _ a' b' => .cond x (mrg a a') (mrg b b')
  | .block i a,.block _ a' => .block i (mrg a a')
  | .loop a,.loop a' => .loop (mrg a a')
  | a,_ => a
def f5e:Option (a0m × List AOp × Nat) → Option (a0m × List AOp × Nat) → Option (a0m × List AOp × Nat)
  | some (a,s,N),some (b,_,_) => some (mrg a b,s,N)
  | _,_ => none
theorem fTM {s1 s2:List (Nat × List (List Nat))} {A:Nat → a0m → a0m} {ms:List Nat} {P:Program} {fn:Func} {x:a0m × List AOp × Nat} {a b:Option (a0m × List AOp × Nat)} (h0:c0h [] P fn = f5e (b9j s1 P fn) (b9j s2 P fn):=by kernel_rfl) (h1:b9j s1 P fn = a:=by conv => lhs; cbv) (h2:b9j s2 P fn = b:=by conv => lhs; cbv) (h:gtA A ms (f5e a b) = some x:=by conv => lhs; cbv):d5t [] A ms P fn = some x:=by
  unfold d5t; rw [h0,h1,h2,← h]
  cases f5e a b <;> rfl
end Go.R
end
section
set_option linter.all false
namespace Go.R
open Go Go.Proofs
attribute [simp] a2m encI a0p a0n a0c a0s l9 y8 a0o c4e a3o a2f a6h a1h b5f c0n
instance:HE y7 a0n:=⟨tr⟩
instance:HE o6 a0c:=⟨tr⟩
instance:HE o7 a0s:=⟨tr⟩
instance:HE o5 l9:=⟨tr⟩
instance:HE o8 y8:=⟨tr⟩
instance:HE x9 a0o:=⟨tr⟩
instance:HE x8 c4e:=⟨tr⟩
instance:HE a3p a3o:=⟨tr⟩
instance:HE a2c a2f:=⟨tr⟩
instance:HE b1v a6h:=⟨tr⟩
instance:HE GOp a1h:=⟨tr⟩
instance:HE a1l b5f:=⟨tr⟩
instance:HE a0g c0n:=⟨tr⟩
instance:HE (List o5) (a2m 3 l9):=⟨tr⟩
instance:HE (List o8) (a2m 2 y8):=⟨tr⟩
end Go.R
end
