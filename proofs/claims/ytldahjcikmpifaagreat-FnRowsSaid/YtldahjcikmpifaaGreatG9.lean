/- Part of the proof. -/
import Derived.Test.YtldahjcikmpifaaGreatG7

section
set_option linter.all false
namespace Go.R
open Go Go.Proofs
attribute [simp] a1f encI a0h l9 o6 a0u c1c a3h a0f a3w a3i a2d a5j a1i b3i b8k
instance:HE o7 l9:=⟨tr⟩
instance:HE o5 o6:=⟨tr⟩
instance:HE x9 a0u:=⟨tr⟩
instance:HE o8 c1c:=⟨tr⟩
instance:HE a0d a3h:=⟨tr⟩
instance:HE x8 a0f:=⟨tr⟩
instance:HE a0b a3w:=⟨tr⟩
instance:HE a3k a3i:=⟨tr⟩
instance:HE a2c a2d:=⟨tr⟩
instance:HE b0b a5j:=⟨tr⟩
instance:HE GOp a1i:=⟨tr⟩
instance:HE a1m b3i:=⟨tr⟩
instance:HE a0g b8k:=⟨tr⟩
instance:HE (List o7) (a1f 3 l9):=⟨tr⟩
instance:HE (List o5) (a1f 2 o6):=⟨tr⟩
end Go.R
end
