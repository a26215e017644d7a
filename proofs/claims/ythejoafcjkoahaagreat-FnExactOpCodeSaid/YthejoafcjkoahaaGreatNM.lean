/- Names: the two ways come to one; behind TXI. -/
import Derived.Test.YthejoafcjkoahaaGreatATS
import Derived.Test.YthejoafcjkoahaaGreatP0
set_option linter.all false
namespace Go.R
open Go
set_option linter.all false
def isLet (c:Int):Bool:=(decide (97 ≤ c) && decide (c ≤ 122)) || (decide (65 ≤ c) && decide (c ≤ 90)) || c == 95
def isDig (c:Int):Bool:=decide (48 ≤ c) && decide (c ≤ 57)
theorem p_l00Letter (c:Int):spec_l00Letter c = some (isLet c):=by
  unfold spec_l00Letter isLet
  by_cases h1:97 ≤ c <;> by_cases h2:c ≤ 122 <;> by_cases h3:65 ≤ c <;> by_cases h4:c ≤ 90 <;> by_cases h5:c = 95 <;> simp [h1,h2,h3,h4,h5]
theorem p_l00Digit (c:Int):spec_l00Digit c = some (isDig c):=by
  unfold spec_l00Digit isDig
  by_cases h1:48 ≤ c <;> simp [h1]
theorem p_isDigit (c:Int):impl_isDigit c = some (isDig c):=by
  unfold impl_isDigit isDig
  by_cases h1:48 ≤ c <;> simp [h1]
def isWordC (b:UInt8):Bool:=isLet b.toNat || isDig b.toNat
def nameOK (t:Str):Bool:=decide (1 ≤ t.length) && decide (t.length ≤ 40) && isLet (t.headD 0).toNat && (t.drop 1).all isWordC
theorem p_l00Word_L1:∀ (t:Str),spec_l00Word_L1 t = some (if t.all isWordC then .go () else .ret false)
  | [] => by rw [spec_l00Word_L1]; rfl
  | c :: t => by
    rw [spec_l00Word_L1,p_l00Letter,Option.bind_some,p_l00Digit,p_l00Word_L1 t]
    cases h1:isLet (c.toNat:Int) <;> cases h2:isDig (c.toNat:Int) <;> simp [isWordC,h1,h2]
theorem p_l00Word (t:Str):spec_l00Word t = some (nameOK t):=by
  unfold spec_l00Word nameOK
  cases t with
  | nil => rfl
  | cons c t =>
    have e:idx (c :: t) 0 = some c:=rfl
    rw [e,Option.bind_some,p_l00Letter,Option.bind_some,p_l00Word_L1]
    have e1:decide (((c :: t).length:Int) < 1) = false:=decide_eq_false (by simp only [List.length_cons]; omega)
    have e2:decide (1 ≤ (c :: t).length) = true:=decide_eq_true (by simp only [List.length_cons]; omega)
    rw [e1,e2]
    by_cases h:(c :: t).length ≤ 40
    · have e3:decide (((c :: t).length:Int) > 40) = false:=decide_eq_false (by omega)
      have e4:decide ((c :: t).length ≤ 40) = true:=decide_eq_true h
      rw [e3,e4]
      cases h1:isLet (c.toNat:Int) <;> cases h3:t.all isWordC <;> simp [h1,h3]
    · have e3:decide (((c :: t).length:Int) > 40) = true:=decide_eq_true (by omega)
      have e4:decide ((c :: t).length ≤ 40) = false:=decide_eq_false h
      rw [e3,e4]
      simp
theorem p_specNameOK (t:Str):spec_NameOK t = some (nameOK t):=by
  unfold spec_NameOK
  rw [p_l00Word]; rfl

def nameC (p:UInt8 × Nat):Bool:=isLet p.1.toNat || (p.2 != 0 && isDig p.1.toNat)
theorem p_NameOK_L1:∀ (t:Str) (i:Nat),impl_NameOK_L1 t i = some (if (t.zipIdx i).all nameC then .go () else .ret false)
  | [],i => by rw [impl_NameOK_L1]; rfl
  | c :: t,i => by
    have e0:((i:Int) == 0) = (i == 0):=by cases i <;> simp; omega
    rw [impl_NameOK_L1,p_NameOK_L1 t (i + 1),List.zipIdx_cons,List.all_cons,p_isDigit,e0]
    unfold nameC isLet
    generalize (List.zipIdx t (i + 1)).all _ = A
    generalize isDig (c.toNat:Int) = D
    generalize (c.toNat:Int) = n
    by_cases h1:97 ≤ n <;> by_cases h2:n ≤ 122 <;> by_cases h3:65 ≤ n <;> by_cases h4:n ≤ 90 <;> by_cases h5:n = 95 <;> cases D <;> by_cases h0:i = 0 <;> simp [h1,h2,h3,h4,h5,h0]
theorem p_NameOK (t:Str):impl_NameOK t = some (nameOK t):=by
  unfold impl_NameOK nameOK
  rw [p_NameOK_L1,Option.bind_some]
  have hz:∀ (r:Str) (k:Nat),(r.zipIdx (k + 1)).all nameC = r.all isWordC:=by
    intro r
    induction r with
    | nil => intro k; rfl
    | cons c r ih => intro k; simp only [List.zipIdx_cons,List.all_cons,ih (k + 1)]; rfl
  cases t with
  | nil => simp [p_within]
  | cons c t =>
    rw [List.zipIdx_cons,List.all_cons,hz t 0]
    have hl:decide (1 ≤ (c :: t).length) = true:=decide_eq_true (by simp)
    have e:nameC (c,0) = isLet (c.toNat:Int):=by simp [nameC]
    rw [e,hl,p_within,Bool.decide_and]
    have e2:decide ((1:Int) ≤ ((c :: t).length:Int)) = true:=decide_eq_true (by simp only [List.length_cons]; omega)
    have e3:decide (((c :: t).length:Int) ≤ 40) = decide ((c :: t).length ≤ 40):=by rw [decide_eq_decide]; omega
    rw [e2,e3]
    show _ = some ((true && _ && isLet (c.toNat:Int)) && t.all isWordC)
    cases isLet (c.toNat:Int) <;> cases t.all isWordC <;> simp

end Go.R
