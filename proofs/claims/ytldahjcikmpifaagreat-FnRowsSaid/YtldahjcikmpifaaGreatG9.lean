/- Part of the proof. -/
import Derived.Test.YtldahjcikmpifaaGreatG7

section
set_option linter.all false
namespace Go.R
open Go
def f2l:List a2q → Nat → Nat → a1h → a1h
  | _,_,0,T => T
  | [],_,_ + 1,_ => .fail
  | r :: rs,d,n + 1,T => bif r.dst == some d then .q r (f2l rs (d + 1) n T) else f2l rs d (n + 1) T
def e4f:Nat → List a2q → List (List Nat) → a1h × List (List Nat)
  | 0,_,l => (.fail,l)
  | _ + 1,_,[] => (.done,[])
  | _ + 1,_,[] :: l => (.done,l)
  | k + 1,rs,[d] :: l => match e4f k rs l with
    | (t,l1) => (f0k rs d 1 t,l1)
  | k + 1,rs,(d :: 0 :: 0 :: re) :: l => match pkT rs d with
    | some r => match e4f k rs l with
      | (t,l1) => match e4f k rs l1 with
        | (o,l2) => (.l r (re.filterMap (pkT rs)) t o,l2)
    | none => (.fail,l)
  | k + 1,rs,(d :: 0 :: re) :: l => match pkT rs d with
    | some r => match e4f k rs l with
      | (t,l1) => (.l r (re.filterMap (pkT rs)) t .non,l1)
    | none => (.fail,l)
  | k + 1,rs,(d :: e :: _) :: l => match e4f k rs l with
    | (t,l1) => (f2l rs d (e + 1 - d) t,l1)
def c1n (sp:List (Nat × List (List Nat))) (P:Program) (N:Nat):Code → Nat → Option a0l × Nat
  | .region i ops draw,k => match sp.lookup k with
    | some ([] :: _) => (some (.reg .fail),k + 1)
    | o => match ocs P ops N ops.toList with
      | none => (none,k + 1)
      | some rs => match draw,o with
        | false,_ => (some (.reg (lin rs)),k + 1)
        | true,some o => (some (.reg (e4f 400 rs o).1),k + 1)
        | true,none => (a6r P N (.region i ops true),k + 1)
  | .seq a b,k => match c1n sp P N a k with
    | (some a,k) => match c1n sp P N b k with
      | (some b,k) => (some (.seq a b),k)
      | (none,k) => (none,k)
    | (none,k) => (none,k)
  | .cond c a b,k => match cx c with
    | some c => match c1n sp P N a k with
      | (some a,k) => match c1n sp P N b k with
        | (some b,k) => (some (.cond c a b),k)
        | (none,k) => (none,k)
      | (none,k) => (none,k)
    | none => (none,k)
  | .block id c,k => match c1n sp P N c k with
    | (some c,k) => (some (.block id c),k)
    | (none,k) => (none,k)
  | .loop c,k => match c1n sp P N c k with
    | (some c,k) => (some (.loop c),k)
    | (none,k) => (none,k)
  | .scope c,k => c1n sp P N c k
  | c,k => (a6r P N c,k)
def b7o (sp:List (Nat × List (List Nat))) (P:Program) (fn:Func):Option (a0l × List AOp × Nat):=match fn.body,c9q P fn.results.toList with
  | some c,some s => match (c1n sp P fn.ntmps c 0).1 with
    | some a => some (a,s,fn.ntmps)
    | none => none
  | _,_ => none
def gtA (A:Nat → a0l → a0l) (ms:List Nat):Option (a0l × List AOp × Nat) → Option (a0l × List AOp × Nat)
  | some (c,s,N) => match cfr c with
    | true => some ((d2q A ms c 0).1,s,N)
    | false => none
  | none => none
def gtC (ms:List Nat):Option (a0l × List AOp × Nat) → Option (a0l × List AOp × Nat)
  | some (c,s,N) => match cfr c with
    | true => some ((d2o ms c 0).1,s,N)
    | false => none
  | none => none
theorem fTA {sp:List (Nat × List (List Nat))} {A:Nat → a0l → a0l} {ms:List Nat} {P:Program} {fn:Func} {x:a0l × List AOp × Nat} (h0:b6t [] P fn = b7o sp P fn:=by kernel_rfl) (h:gtA A ms (b7o sp P fn) = some x:=by conv => lhs; cbv):c8h [] A ms P fn = some x:=by
  unfold c8h; rw [h0]; rw [← h]
  cases b7o sp P fn <;> rfl
theorem fTC {sp:List (Nat × List (List Nat))} {ms:List Nat} {P:Program} {fn:Func} {x:a0l × List AOp × Nat} (h0:b6t [] P fn = b7o sp P fn:=by kernel_rfl) (h:gtC ms (b7o sp P fn) = some x:=by conv => lhs; cbv):d2p [] ms P fn = some x:=by
  unfold d2p; rw [h0]; rw [← h]
  cases b7o sp P fn <;> rfl
def mrg:a0l → a0l → a0l
  | .reg .fail,b => b
  | .seq a b,.seq a' b' => .seq (mrg a a') (mrg b b')
  | .cond x a b,.cond _ a' b' => .cond x (mrg a a') (mrg b b')
  | .block i a,.block _ a' => .block i (mrg a a')
  | .loop a,.loop a' => .loop (mrg a a')
  | a,_ => a
def f2m:Option (a0l × List AOp × Nat) → Option (a0l × List AOp × Nat) → Option (a0l × List AOp × Nat)
  | some (a,s,N),some (b,_,_) => some (mrg a b,s,N)
  | _,_ => none
theorem fTM {s1 s2:List (Nat × List (List Nat))} {A:Nat → a0l → a0l} {ms:List Nat} {P:Program} {fn:Func} {x:a0l × List AOp × Nat} {a b:Option (a0l × List AOp × Nat)} (h0:b6t [] P fn = f2m (b7o s1 P fn) (b7o s2 P fn):=by kernel_rfl) (h1:b7o s1 P fn = a:=by conv => lhs; cbv) (h2:b7o s2 P fn = b:=by conv => lhs; cbv) (h:gtA A ms (f2m a b) = some x:=by conv => lhs; cbv):c8h [] A ms P fn = some x:=by
  unfold c8h; rw [h0,h1,h2,← h]
  cases f2m a b <;> rfl
end Go.R
end
section
set_option linter.all false
namespace Go.R
open Go Go.Proofs
attribute [simp] a1f encI a0h l9 o6 a0u c1c a3h a0f a3w a3i a2d a5j a1i b3i b8k
instance:HE o7 l9:=⟨tr⟩
instance:HE o5 o6:=⟨tr⟩
instance:HE x9 a0u:=⟨tr⟩
instance:HE o8 c1c:=⟨tr⟩
instance:HE a0d a3h:=⟨tr⟩
instance:HE x8 a0f:=⟨tr⟩
instance:HE a0b a3w:=⟨tr⟩
instance:HE a3k a3i:=⟨tr⟩
instance:HE a2c a2d:=⟨tr⟩
instance:HE b0b a5j:=⟨tr⟩
instance:HE GOp a1i:=⟨tr⟩
instance:HE a1m b3i:=⟨tr⟩
instance:HE a0g b8k:=⟨tr⟩
instance:HE (List o7) (a1f 3 l9):=⟨tr⟩
instance:HE (List o5) (a1f 2 o6):=⟨tr⟩
end Go.R
end
