/- Marks: what the laws' own marking functions leave, and that it is read back. -/
import Derived.Test.YtmeckljlaaflkaaGreatSW4
import Derived.Test.YtmeckljlaaflkaaGreatP0
set_option linter.all false
namespace Go.R
open Go
set_option linter.all false
set_option maxHeartbeats 1000000
theorem fuel_lt {n:Nat} (h:n < 2 ^ 90):n < FUEL:=by unfold FUEL; omega
theorem p_markText_L1:∀ (m f:Nat) (k:Int) (out:Str),0 ≤ k → k < 2 ^ m → m < f → out.length + m + 1 ≤ maxLen → k < 2 ^ 62 → ∃ t,laws_markText_L1 f k out = some t ∧ t.length ≤ out.length + m
  | _,0,_,_,_,_,h,_,_ => by omega
  | 0,f + 1,k,out,h0,h1,_,_,_ => by
    have:k = 0:=by simp at h1; omega
    subst this
    rw [laws_markText_L1,if_neg (by simp)]
    exact ⟨out,rfl,by omega⟩
  | m + 1,f + 1,k,out,h0,h1,h2,h3,h4 => by
    rw [laws_markText_L1]
    by_cases hk:k > 0
    · rw [if_pos (by simpa using hk)]
      have hb:∀ n,(bstr [n]).length = 1:=fun _ => rfl
      rw [if_pos (by rw [hb]; omega)]
      have hd:k.tdiv 10 = k / 10:=Int.tdiv_eq_ediv_of_nonneg h0
      have hw:w64 (k.tdiv 10) = k / 10:=by rw [hd]; exact w64_id (by omega)
      rw [hw]
      have hp:(2:Int) ^ (m + 1) = 2 * 2 ^ m:=by rw [Int.pow_succ]; omega
      obtain ⟨t,e,hl⟩:=p_markText_L1 m f (k / 10) (bstr [IntKind.u8.wrap (w64 (48 + (k.tmod 10)))] ++ out) (by omega) (by omega) (by omega) (by rw [List.length_append,hb]; omega) (by omega)
      refine ⟨t,e,?_⟩
      rw [List.length_append,hb] at hl
      omega
    · rw [if_neg (by simpa using hk)]
      exact ⟨out,rfl,by omega⟩
def tx (k:Int):Str:=(laws_markText k).getD []
theorem p_markText {k:Int} (h0:1 ≤ k) (h1:k < 2 ^ 62):laws_markText k = some (tx k):=by
  have:∃ t,laws_markText k = some t:=by
    unfold laws_markText
    rw [if_neg (by simp; omega)]
    obtain ⟨t,e,hl⟩:=p_markText_L1 62 FUEL k [] (by omega) h1 (fuel_lt (by omega)) (by simp [maxLen]) h1
    rw [e,Option.bind_some,if_pos (by simp only [List.length_cons,List.length_nil] at hl ⊢; simp only [maxLen]; omega)]
    exact ⟨_,rfl⟩
  obtain ⟨t,e⟩:=this
  unfold tx
  rw [e]
  rfl
def cntAtomS:List GAtom → Nat
  | [] => 0
  | x :: xs => (1 + 1 + 1) + cntAtomS xs
def mkAtomS:List GAtom → Int → List GAtom
  | [],_ => []
  | x :: xs,k => ⟨(k),(k + 1),(tx (k + 1 + 1))⟩ :: mkAtomS xs (k + 1 + 1 + 1)
def fitAtomS (l:List GAtom):Prop:=l.length < 2 ^ 61
theorem p_markAtomS_L1:∀ (n f:Nat) (l:List GAtom) (i:Nat) (k:Int),i + n = l.length → n < f → 1 ≤ k → fitAtomS l → k + (cntAtomS (l.drop i):Nat) < 2 ^ 62 → laws_markAtomS_L1 f k i l = some (k + (cntAtomS (l.drop i):Nat),l.take i ++ mkAtomS (l.drop i) k)
  | _,0,_,_,_,_,h,_,_,_ => by omega
  | 0,f + 1,l,i,k,h,_,_,_,_ => by
    rw [laws_markAtomS_L1,if_neg (by simp; omega),List.drop_of_length_le (by omega),List.take_of_length_le (by omega)]
    simp [cntAtomS,mkAtomS]
  | n + 1,f + 1,l,i,k,h,hf,hk,hfit,hc => by
    have hi:i < l.length:=by omega
    have hd:l.drop i = l[i] :: l.drop (i + 1):=List.drop_eq_getElem_cons hi
    rw [hd] at hc ⊢
    simp only [cntAtomS] at hc ⊢
    have hlen:l.length < 2 ^ 61:=hfit
    have w0:w64 (k + 1) = k + 1:=w64_id (by omega)
    have w1:w64 (k + 1 + 1) = k + 1 + 1:=w64_id (by omega)
    have t2:=p_markText (k:=k + 1 + 1) (by omega) (by omega)
    have w2:w64 (k + 1 + 1 + 1) = k + 1 + 1 + 1:=w64_id (by omega)
    have wi:w64 ((i:Int) + 1) = ((i + 1:Nat):Int):=by rw [w64_id (by omega)]; rfl
    have hg:l[i]? = some l[i]:=List.getElem?_eq_getElem hi
    have hix:0 + (i:Int).toNat = i:=by simp
    have hlt:((i:Int) < (l.length:Int)) = True:=eq_true (by omega)
    have hge:(0 ≤ (i:Int)) = True:=eq_true (by omega)
    have hds:∀ y,(l.set i y).drop (i + 1) = l.drop (i + 1):=fun y => List.drop_set_of_lt (by omega)
    have hfit2:fitAtomS (l.set i (⟨(k),(k + 1),(tx (k + 1 + 1))⟩)):=by
      unfold fitAtomS at hfit ⊢
      rw [List.length_set]; exact hfit
    have ih:=p_markAtomS_L1 n f (l.set i (⟨(k),(k + 1),(tx (k + 1 + 1))⟩)) (i + 1) (k + 1 + 1 + 1) (by rw [List.length_set]; omega) (by omega) (by omega) hfit2 (by rw [hds]; omega)
    rw [hds] at ih
    rw [laws_markAtomS_L1]
    simp only [hlt,hge,hix,hg,decide_true,and_self,if_true,Option.bind_some,List.set_set,wi,w0,w1,t2,w2]
    rw [ih,set_fill _ _ _ _ hi,mkAtomS]
    refine congrArg some (Prod.ext ?_ rfl)
    simp only
    omega
theorem p_markAtomS (l:List GAtom) (k:Int) (hf:fitAtomS l) (h0:1 ≤ k) (h1:k + (cntAtomS l:Nat) < 2 ^ 62):laws_markAtomS l k = some (k + (cntAtomS l:Nat),mkAtomS l k):=by
  unfold laws_markAtomS
  have hl:l.length < 2 ^ 61:=hf
  rw [show (0:Int) = ((0:Nat):Int) from rfl,p_markAtomS_L1 l.length FUEL l 0 k (by omega) (fuel_lt (by omega)) h0 hf (by simpa using h1)]
  simp
theorem len_mkAtomS:∀ (l:List GAtom) (k:Int),(mkAtomS l k).length = l.length
  | [],_ => rfl
  | x :: l,k => by simp only [mkAtomS,List.length_cons,len_mkAtomS l]
theorem fit_mkAtomS (l:List GAtom) (k:Int) (h:fitAtomS l):fitAtomS (mkAtomS l k):=by
  unfold fitAtomS at h ⊢
  rw [len_mkAtomS]; exact h
theorem p_heldAtomS_L1:∀ (l:List GAtom) (k:Int),fitAtomS l → 1 ≤ k → k + (cntAtomS l:Nat) < 2 ^ 62 → laws_heldAtomS_L1 (mkAtomS l k) k = some (.go (k + (cntAtomS l:Nat)))
  | [],k,_,_,_ => by simp [mkAtomS,laws_heldAtomS_L1,cntAtomS]
  | x :: l,k,hfit,h0,hc => by
    simp only [cntAtomS] at hc ⊢
    have hfit2:fitAtomS l:=by unfold fitAtomS at hfit ⊢; simp at hfit; omega
    have w0:w64 (k + 1) = k + 1:=w64_id (by omega)
    have w1:w64 (k + 1 + 1) = k + 1 + 1:=w64_id (by omega)
    have t2:=p_markText (k:=k + 1 + 1) (by omega) (by omega)
    have w2:w64 (k + 1 + 1 + 1) = k + 1 + 1 + 1:=w64_id (by omega)
    have ih:=p_heldAtomS_L1 l (k + 1 + 1 + 1) hfit2 (by omega) (by omega)
    rw [mkAtomS,laws_heldAtomS_L1]
    simp only [w0,w1,t2,w2,Option.bind_some,beq_self_eq_true,bne_self_eq_false,Bool.not_true,Bool.false_eq_true,if_false,decide_false]
    rw [ih]
    refine congrArg (fun z => some (Fl.go z)) ?_
    omega
theorem p_heldAtomS (l:List GAtom) (k:Int) (hf:fitAtomS l) (h0:1 ≤ k) (h1:k + (cntAtomS l:Nat) < 2 ^ 62):laws_heldAtomS (mkAtomS l k) k = some (k + (cntAtomS l:Nat)):=by
  unfold laws_heldAtomS
  rw [p_heldAtomS_L1 l k hf h0 h1]
  rfl

def cntAtomSS:List (List GAtom) → Nat
  | [] => 0
  | x :: xs => (cntAtomS x) + cntAtomSS xs
def mkAtomSS:List (List GAtom) → Int → List (List GAtom)
  | [],_ => []
  | x :: xs,k => (mkAtomS x (k)) :: mkAtomSS xs (k + (cntAtomS x:Nat))
def fitAtomSS (l:List (List GAtom)):Prop:=l.length < 2 ^ 61 ∧ ∀ x ∈ l,fitAtomS x
theorem p_markAtomSS_L1:∀ (n f:Nat) (l:List (List GAtom)) (i:Nat) (k:Int),i + n = l.length → n < f → 1 ≤ k → fitAtomSS l → k + (cntAtomSS (l.drop i):Nat) < 2 ^ 62 → laws_markAtomSS_L1 f k i l = some (k + (cntAtomSS (l.drop i):Nat),l.take i ++ mkAtomSS (l.drop i) k)
  | _,0,_,_,_,_,h,_,_,_ => by omega
  | 0,f + 1,l,i,k,h,_,_,_,_ => by
    rw [laws_markAtomSS_L1,if_neg (by simp; omega),List.drop_of_length_le (by omega),List.take_of_length_le (by omega)]
    simp [cntAtomSS,mkAtomSS]
  | n + 1,f + 1,l,i,k,h,hf,hk,hfit,hc => by
    have hi:i < l.length:=by omega
    have hd:l.drop i = l[i] :: l.drop (i + 1):=List.drop_eq_getElem_cons hi
    rw [hd] at hc ⊢
    simp only [cntAtomSS] at hc ⊢
    have hlen:l.length < 2 ^ 61:=hfit.1
    have hx:=hfit.2 l[i] (List.getElem_mem _)
    have m0:=p_markAtomS l[i] (k) (hx) (by omega) (by omega)
    have wi:w64 ((i:Int) + 1) = ((i + 1:Nat):Int):=by rw [w64_id (by omega)]; rfl
    have hg:l[i]? = some l[i]:=List.getElem?_eq_getElem hi
    have hix:0 + (i:Int).toNat = i:=by simp
    have hlt:((i:Int) < (l.length:Int)) = True:=eq_true (by omega)
    have hge:(0 ≤ (i:Int)) = True:=eq_true (by omega)
    have hds:∀ y,(l.set i y).drop (i + 1) = l.drop (i + 1):=fun y => List.drop_set_of_lt (by omega)
    have hfit2:fitAtomSS (l.set i ((mkAtomS l[i] (k)))):=by
      unfold fitAtomSS at hfit ⊢
      exact ⟨by rw [List.length_set]; exact hfit.1,fun z hz => by
        rcases List.mem_or_eq_of_mem_set hz with hz | rfl
        · exact hfit.2 z hz
        · exact fit_mkAtomS _ _ hx⟩
    have ih:=p_markAtomSS_L1 n f (l.set i ((mkAtomS l[i] (k)))) (i + 1) (k + (cntAtomS l[i]:Nat)) (by rw [List.length_set]; omega) (by omega) (by omega) hfit2 (by rw [hds]; omega)
    rw [hds] at ih
    rw [laws_markAtomSS_L1]
    simp only [hlt,hge,hix,hg,decide_true,and_self,if_true,Option.bind_some,List.set_set,wi,m0]
    rw [ih,set_fill _ _ _ _ hi,mkAtomSS]
    refine congrArg some (Prod.ext ?_ rfl)
    simp only
    omega
theorem p_markAtomSS (l:List (List GAtom)) (k:Int) (hf:fitAtomSS l) (h0:1 ≤ k) (h1:k + (cntAtomSS l:Nat) < 2 ^ 62):laws_markAtomSS l k = some (k + (cntAtomSS l:Nat),mkAtomSS l k):=by
  unfold laws_markAtomSS
  have hl:l.length < 2 ^ 61:=hf.1
  rw [show (0:Int) = ((0:Nat):Int) from rfl,p_markAtomSS_L1 l.length FUEL l 0 k (by omega) (fuel_lt (by omega)) h0 hf (by simpa using h1)]
  simp
theorem len_mkAtomSS:∀ (l:List (List GAtom)) (k:Int),(mkAtomSS l k).length = l.length
  | [],_ => rfl
  | x :: l,k => by simp only [mkAtomSS,List.length_cons,len_mkAtomSS l]
theorem fit_mkAtomSS:∀ (l:List (List GAtom)) (k:Int),fitAtomSS l → fitAtomSS (mkAtomSS l k)
  | [],_,h => h
  | x :: l,k,h => by
    have h2:fitAtomSS l:=⟨by have:=h.1; simp at this; omega,fun y hy => h.2 y (by simp [hy])⟩
    have ih:=fit_mkAtomSS l (k + (cntAtomS x:Nat)) h2
    have hx:=h.2 x (by simp)
    refine ⟨by rw [len_mkAtomSS]; exact h.1,fun z hz => ?_⟩
    rw [mkAtomSS] at hz
    rcases List.mem_cons.1 hz with rfl | hz
    · exact fit_mkAtomS _ _ hx
    · exact ih.2 z hz
theorem p_heldAtomSS_L1:∀ (l:List (List GAtom)) (k:Int),fitAtomSS l → 1 ≤ k → k + (cntAtomSS l:Nat) < 2 ^ 62 → laws_heldAtomSS_L1 (mkAtomSS l k) k = some (.go (k + (cntAtomSS l:Nat)))
  | [],k,_,_,_ => by simp [mkAtomSS,laws_heldAtomSS_L1,cntAtomSS]
  | x :: l,k,hfit,h0,hc => by
    simp only [cntAtomSS] at hc ⊢
    have hx:=hfit.2 x (by simp)
    have hfit2:fitAtomSS l:=⟨by have:=hfit.1; simp at this; omega,fun y hy => hfit.2 y (by simp [hy])⟩
    have m0:=p_heldAtomS x (k) hx (by omega) (by omega)
    have n0:(k + (cntAtomS x:Nat) < 0) = False:=eq_false (by omega)
    have ih:=p_heldAtomSS_L1 l (k + (cntAtomS x:Nat)) hfit2 (by omega) (by omega)
    rw [mkAtomSS,laws_heldAtomSS_L1]
    simp only [m0,n0,Option.bind_some,beq_self_eq_true,bne_self_eq_false,Bool.not_true,Bool.false_eq_true,if_false,decide_false]
    rw [ih]
    refine congrArg (fun z => some (Fl.go z)) ?_
    omega
theorem p_heldAtomSS (l:List (List GAtom)) (k:Int) (hf:fitAtomSS l) (h0:1 ≤ k) (h1:k + (cntAtomSS l:Nat) < 2 ^ 62):laws_heldAtomSS (mkAtomSS l k) k = some (k + (cntAtomSS l:Nat)):=by
  unfold laws_heldAtomSS
  rw [p_heldAtomSS_L1 l k hf h0 h1]
  rfl

def cntColumnS:List GColumn → Nat
  | [] => 0
  | x :: xs => (1 + 1 + 1 + 1 + 1 + 1 + 1 + 1) + cntColumnS xs
def mkColumnS:List GColumn → Int → List GColumn
  | [],_ => []
  | x :: xs,k => ⟨(tx (k)),(k + 1),(k + 1 + 1),(k + 1 + 1 + 1),(k + 1 + 1 + 1 + 1),(k + 1 + 1 + 1 + 1 + 1),(tx (k + 1 + 1 + 1 + 1 + 1 + 1)),(Int.tmod (k + 1 + 1 + 1 + 1 + 1 + 1 + 1) 3 == 0)⟩ :: mkColumnS xs (k + 1 + 1 + 1 + 1 + 1 + 1 + 1 + 1)
def fitColumnS (l:List GColumn):Prop:=l.length < 2 ^ 61
theorem p_markColumnS_L1:∀ (n f:Nat) (l:List GColumn) (i:Nat) (k:Int),i + n = l.length → n < f → 1 ≤ k → fitColumnS l → k + (cntColumnS (l.drop i):Nat) < 2 ^ 62 → laws_markColumnS_L1 f k i l = some (k + (cntColumnS (l.drop i):Nat),l.take i ++ mkColumnS (l.drop i) k)
  | _,0,_,_,_,_,h,_,_,_ => by omega
  | 0,f + 1,l,i,k,h,_,_,_,_ => by
    rw [laws_markColumnS_L1,if_neg (by simp; omega),List.drop_of_length_le (by omega),List.take_of_length_le (by omega)]
    simp [cntColumnS,mkColumnS]
  | n + 1,f + 1,l,i,k,h,hf,hk,hfit,hc => by
    have hi:i < l.length:=by omega
    have hd:l.drop i = l[i] :: l.drop (i + 1):=List.drop_eq_getElem_cons hi
    rw [hd] at hc ⊢
    simp only [cntColumnS] at hc ⊢
    have hlen:l.length < 2 ^ 61:=hfit
    have t0:=p_markText (k:=k) (by omega) (by omega)
    have w0:w64 (k + 1) = k + 1:=w64_id (by omega)
    have w1:w64 (k + 1 + 1) = k + 1 + 1:=w64_id (by omega)
    have w2:w64 (k + 1 + 1 + 1) = k + 1 + 1 + 1:=w64_id (by omega)
    have w3:w64 (k + 1 + 1 + 1 + 1) = k + 1 + 1 + 1 + 1:=w64_id (by omega)
    have w4:w64 (k + 1 + 1 + 1 + 1 + 1) = k + 1 + 1 + 1 + 1 + 1:=w64_id (by omega)
    have w5:w64 (k + 1 + 1 + 1 + 1 + 1 + 1) = k + 1 + 1 + 1 + 1 + 1 + 1:=w64_id (by omega)
    have t6:=p_markText (k:=k + 1 + 1 + 1 + 1 + 1 + 1) (by omega) (by omega)
    have w6:w64 (k + 1 + 1 + 1 + 1 + 1 + 1 + 1) = k + 1 + 1 + 1 + 1 + 1 + 1 + 1:=w64_id (by omega)
    have w7:w64 (k + 1 + 1 + 1 + 1 + 1 + 1 + 1 + 1) = k + 1 + 1 + 1 + 1 + 1 + 1 + 1 + 1:=w64_id (by omega)
    have wi:w64 ((i:Int) + 1) = ((i + 1:Nat):Int):=by rw [w64_id (by omega)]; rfl
    have hg:l[i]? = some l[i]:=List.getElem?_eq_getElem hi
    have hix:0 + (i:Int).toNat = i:=by simp
    have hlt:((i:Int) < (l.length:Int)) = True:=eq_true (by omega)
    have hge:(0 ≤ (i:Int)) = True:=eq_true (by omega)
    have hds:∀ y,(l.set i y).drop (i + 1) = l.drop (i + 1):=fun y => List.drop_set_of_lt (by omega)
    have hfit2:fitColumnS (l.set i (⟨(tx (k)),(k + 1),(k + 1 + 1),(k + 1 + 1 + 1),(k + 1 + 1 + 1 + 1),(k + 1 + 1 + 1 + 1 + 1),(tx (k + 1 + 1 + 1 + 1 + 1 + 1)),(Int.tmod (k + 1 + 1 + 1 + 1 + 1 + 1 + 1) 3 == 0)⟩)):=by
      unfold fitColumnS at hfit ⊢
      rw [List.length_set]; exact hfit
    have ih:=p_markColumnS_L1 n f (l.set i (⟨(tx (k)),(k + 1),(k + 1 + 1),(k + 1 + 1 + 1),(k + 1 + 1 + 1 + 1),(k + 1 + 1 + 1 + 1 + 1),(tx (k + 1 + 1 + 1 + 1 + 1 + 1)),(Int.tmod (k + 1 + 1 + 1 + 1 + 1 + 1 + 1) 3 == 0)⟩)) (i + 1) (k + 1 + 1 + 1 + 1 + 1 + 1 + 1 + 1) (by rw [List.length_set]; omega) (by omega) (by omega) hfit2 (by rw [hds]; omega)
    rw [hds] at ih
    rw [laws_markColumnS_L1]
    simp only [hlt,hge,hix,hg,decide_true,and_self,if_true,Option.bind_some,List.set_set,wi,t0,w0,w1,w2,w3,w4,w5,t6,w6,w7]
    rw [ih,set_fill _ _ _ _ hi,mkColumnS]
    refine congrArg some (Prod.ext ?_ rfl)
    simp only
    omega
theorem p_markColumnS (l:List GColumn) (k:Int) (hf:fitColumnS l) (h0:1 ≤ k) (h1:k + (cntColumnS l:Nat) < 2 ^ 62):laws_markColumnS l k = some (k + (cntColumnS l:Nat),mkColumnS l k):=by
  unfold laws_markColumnS
  have hl:l.length < 2 ^ 61:=hf
  rw [show (0:Int) = ((0:Nat):Int) from rfl,p_markColumnS_L1 l.length FUEL l 0 k (by omega) (fuel_lt (by omega)) h0 hf (by simpa using h1)]
  simp
theorem len_mkColumnS:∀ (l:List GColumn) (k:Int),(mkColumnS l k).length = l.length
  | [],_ => rfl
  | x :: l,k => by simp only [mkColumnS,List.length_cons,len_mkColumnS l]
theorem fit_mkColumnS (l:List GColumn) (k:Int) (h:fitColumnS l):fitColumnS (mkColumnS l k):=by
  unfold fitColumnS at h ⊢
  rw [len_mkColumnS]; exact h

def cntIntS:List Int → Nat
  | [] => 0
  | x :: xs => (1) + cntIntS xs
def mkIntS:List Int → Int → List Int
  | [],_ => []
  | x :: xs,k => (k) :: mkIntS xs (k + 1)
def fitIntS (l:List Int):Prop:=l.length < 2 ^ 61
theorem p_markIntS_L1:∀ (n f:Nat) (l:List Int) (i:Nat) (k:Int),i + n = l.length → n < f → 1 ≤ k → fitIntS l → k + (cntIntS (l.drop i):Nat) < 2 ^ 62 → laws_markIntS_L1 f k i l = some (k + (cntIntS (l.drop i):Nat),l.take i ++ mkIntS (l.drop i) k)
  | _,0,_,_,_,_,h,_,_,_ => by omega
  | 0,f + 1,l,i,k,h,_,_,_,_ => by
    rw [laws_markIntS_L1,if_neg (by simp; omega),List.drop_of_length_le (by omega),List.take_of_length_le (by omega)]
    simp [cntIntS,mkIntS]
  | n + 1,f + 1,l,i,k,h,hf,hk,hfit,hc => by
    have hi:i < l.length:=by omega
    have hd:l.drop i = l[i] :: l.drop (i + 1):=List.drop_eq_getElem_cons hi
    rw [hd] at hc ⊢
    simp only [cntIntS] at hc ⊢
    have hlen:l.length < 2 ^ 61:=hfit
    have w0:w64 (k + 1) = k + 1:=w64_id (by omega)
    have wi:w64 ((i:Int) + 1) = ((i + 1:Nat):Int):=by rw [w64_id (by omega)]; rfl
    have hg:l[i]? = some l[i]:=List.getElem?_eq_getElem hi
    have hix:0 + (i:Int).toNat = i:=by simp
    have hlt:((i:Int) < (l.length:Int)) = True:=eq_true (by omega)
    have hge:(0 ≤ (i:Int)) = True:=eq_true (by omega)
    have hds:∀ y,(l.set i y).drop (i + 1) = l.drop (i + 1):=fun y => List.drop_set_of_lt (by omega)
    have hfit2:fitIntS (l.set i ((k))):=by
      unfold fitIntS at hfit ⊢
      rw [List.length_set]; exact hfit
    have ih:=p_markIntS_L1 n f (l.set i ((k))) (i + 1) (k + 1) (by rw [List.length_set]; omega) (by omega) (by omega) hfit2 (by rw [hds]; omega)
    rw [hds] at ih
    rw [laws_markIntS_L1]
    simp only [hlt,hge,hix,hg,decide_true,and_self,if_true,Option.bind_some,List.set_set,wi,w0]
    rw [ih,set_fill _ _ _ _ hi,mkIntS]
    refine congrArg some (Prod.ext ?_ rfl)
    simp only
    omega
theorem p_markIntS (l:List Int) (k:Int) (hf:fitIntS l) (h0:1 ≤ k) (h1:k + (cntIntS l:Nat) < 2 ^ 62):laws_markIntS l k = some (k + (cntIntS l:Nat),mkIntS l k):=by
  unfold laws_markIntS
  have hl:l.length < 2 ^ 61:=hf
  rw [show (0:Int) = ((0:Nat):Int) from rfl,p_markIntS_L1 l.length FUEL l 0 k (by omega) (fuel_lt (by omega)) h0 hf (by simpa using h1)]
  simp
theorem len_mkIntS:∀ (l:List Int) (k:Int),(mkIntS l k).length = l.length
  | [],_ => rfl
  | x :: l,k => by simp only [mkIntS,List.length_cons,len_mkIntS l]
theorem fit_mkIntS (l:List Int) (k:Int) (h:fitIntS l):fitIntS (mkIntS l k):=by
  unfold fitIntS at h ⊢
  rw [len_mkIntS]; exact h

def cntRow (x:GRow):Nat:=cntAtomSS x.Cells
def mkRow (x:GRow) (k:Int):GRow:=⟨x.Id,(mkAtomSS x.Cells (k))⟩
def fitRow (x:GRow):Prop:=fitAtomSS x.Cells
theorem p_markRow (x:GRow) (k:Int) (hf:fitRow x) (h0:1 ≤ k) (h1:k + (cntRow x:Nat) < 2 ^ 62):laws_markRow x k = some (k + (cntRow x:Nat),mkRow x k):=by
  unfold cntRow at h1 ⊢
  unfold fitRow at hf
  have m0:=p_markAtomSS x.Cells (k) hf (by omega) (by omega)
  unfold laws_markRow
  simp only [m0,Option.bind_some]
  refine congrArg some (Prod.ext ?_ rfl)
  (try simp only) <;> omega
theorem p_heldRow (x:GRow) (k:Int) (hf:fitRow x) (h0:1 ≤ k) (h1:k + (cntRow x:Nat) < 2 ^ 62):laws_heldRow (mkRow x k) k = some (k + (cntRow x:Nat)):=by
  unfold cntRow at h1 ⊢
  unfold fitRow at hf
  have m0:=p_heldAtomSS x.Cells (k) hf (by omega) (by omega)
  have n0:(k + (cntAtomSS x.Cells:Nat) < 0) = False:=eq_false (by omega)
  unfold laws_heldRow mkRow
  simp only [m0,n0,Option.bind_some,decide_false,Bool.false_eq_true,if_false]
  all_goals (refine congrArg some ?_; omega)

def cntStringS:List Str → Nat
  | [] => 0
  | x :: xs => (1) + cntStringS xs
def mkStringS:List Str → Int → List Str
  | [],_ => []
  | x :: xs,k => (tx (k)) :: mkStringS xs (k + 1)
def fitStringS (l:List Str):Prop:=l.length < 2 ^ 61
theorem p_markStringS_L1:∀ (n f:Nat) (l:List Str) (i:Nat) (k:Int),i + n = l.length → n < f → 1 ≤ k → fitStringS l → k + (cntStringS (l.drop i):Nat) < 2 ^ 62 → laws_markStringS_L1 f k i l = some (k + (cntStringS (l.drop i):Nat),l.take i ++ mkStringS (l.drop i) k)
  | _,0,_,_,_,_,h,_,_,_ => by omega
  | 0,f + 1,l,i,k,h,_,_,_,_ => by
    rw [laws_markStringS_L1,if_neg (by simp; omega),List.drop_of_length_le (by omega),List.take_of_length_le (by omega)]
    simp [cntStringS,mkStringS]
  | n + 1,f + 1,l,i,k,h,hf,hk,hfit,hc => by
    have hi:i < l.length:=by omega
    have hd:l.drop i = l[i] :: l.drop (i + 1):=List.drop_eq_getElem_cons hi
    rw [hd] at hc ⊢
    simp only [cntStringS] at hc ⊢
    have hlen:l.length < 2 ^ 61:=hfit
    have t0:=p_markText (k:=k) (by omega) (by omega)
    have w0:w64 (k + 1) = k + 1:=w64_id (by omega)
    have wi:w64 ((i:Int) + 1) = ((i + 1:Nat):Int):=by rw [w64_id (by omega)]; rfl
    have hg:l[i]? = some l[i]:=List.getElem?_eq_getElem hi
    have hix:0 + (i:Int).toNat = i:=by simp
    have hlt:((i:Int) < (l.length:Int)) = True:=eq_true (by omega)
    have hge:(0 ≤ (i:Int)) = True:=eq_true (by omega)
    have hds:∀ y,(l.set i y).drop (i + 1) = l.drop (i + 1):=fun y => List.drop_set_of_lt (by omega)
    have hfit2:fitStringS (l.set i ((tx (k)))):=by
      unfold fitStringS at hfit ⊢
      rw [List.length_set]; exact hfit
    have ih:=p_markStringS_L1 n f (l.set i ((tx (k)))) (i + 1) (k + 1) (by rw [List.length_set]; omega) (by omega) (by omega) hfit2 (by rw [hds]; omega)
    rw [hds] at ih
    rw [laws_markStringS_L1]
    simp only [hlt,hge,hix,hg,decide_true,and_self,if_true,Option.bind_some,List.set_set,wi,t0,w0]
    rw [ih,set_fill _ _ _ _ hi,mkStringS]
    refine congrArg some (Prod.ext ?_ rfl)
    simp only
    omega
theorem p_markStringS (l:List Str) (k:Int) (hf:fitStringS l) (h0:1 ≤ k) (h1:k + (cntStringS l:Nat) < 2 ^ 62):laws_markStringS l k = some (k + (cntStringS l:Nat),mkStringS l k):=by
  unfold laws_markStringS
  have hl:l.length < 2 ^ 61:=hf
  rw [show (0:Int) = ((0:Nat):Int) from rfl,p_markStringS_L1 l.length FUEL l 0 k (by omega) (fuel_lt (by omega)) h0 hf (by simpa using h1)]
  simp
theorem len_mkStringS:∀ (l:List Str) (k:Int),(mkStringS l k).length = l.length
  | [],_ => rfl
  | x :: l,k => by simp only [mkStringS,List.length_cons,len_mkStringS l]
theorem fit_mkStringS (l:List Str) (k:Int) (h:fitStringS l):fitStringS (mkStringS l k):=by
  unfold fitStringS at h ⊢
  rw [len_mkStringS]; exact h

def cntSetS:List GSet → Nat
  | [] => 0
  | x :: xs => (1 + cntAtomS x.Value + cntStringS x.Names) + cntSetS xs
def mkSetS:List GSet → Int → List GSet
  | [],_ => []
  | x :: xs,k => ⟨(tx (k)),(mkAtomS x.Value (k + 1)),(mkStringS x.Names (k + 1 + (cntAtomS x.Value:Nat)))⟩ :: mkSetS xs (k + 1 + (cntAtomS x.Value:Nat) + (cntStringS x.Names:Nat))
def fitSetS (l:List GSet):Prop:=l.length < 2 ^ 61 ∧ ∀ x ∈ l,fitAtomS x.Value ∧ fitStringS x.Names
theorem p_markSetS_L1:∀ (n f:Nat) (l:List GSet) (i:Nat) (k:Int),i + n = l.length → n < f → 1 ≤ k → fitSetS l → k + (cntSetS (l.drop i):Nat) < 2 ^ 62 → laws_markSetS_L1 f k i l = some (k + (cntSetS (l.drop i):Nat),l.take i ++ mkSetS (l.drop i) k)
  | _,0,_,_,_,_,h,_,_,_ => by omega
  | 0,f + 1,l,i,k,h,_,_,_,_ => by
    rw [laws_markSetS_L1,if_neg (by simp; omega),List.drop_of_length_le (by omega),List.take_of_length_le (by omega)]
    simp [cntSetS,mkSetS]
  | n + 1,f + 1,l,i,k,h,hf,hk,hfit,hc => by
    have hi:i < l.length:=by omega
    have hd:l.drop i = l[i] :: l.drop (i + 1):=List.drop_eq_getElem_cons hi
    rw [hd] at hc ⊢
    simp only [cntSetS] at hc ⊢
    have hlen:l.length < 2 ^ 61:=hfit.1
    have hx:=hfit.2 l[i] (List.getElem_mem _)
    have t0:=p_markText (k:=k) (by omega) (by omega)
    have w0:w64 (k + 1) = k + 1:=w64_id (by omega)
    have m1:=p_markAtomS l[i].Value (k + 1) (hx.1) (by omega) (by omega)
    have m2:=p_markStringS l[i].Names (k + 1 + (cntAtomS l[i].Value:Nat)) (hx.2) (by omega) (by omega)
    have wi:w64 ((i:Int) + 1) = ((i + 1:Nat):Int):=by rw [w64_id (by omega)]; rfl
    have hg:l[i]? = some l[i]:=List.getElem?_eq_getElem hi
    have hix:0 + (i:Int).toNat = i:=by simp
    have hlt:((i:Int) < (l.length:Int)) = True:=eq_true (by omega)
    have hge:(0 ≤ (i:Int)) = True:=eq_true (by omega)
    have hds:∀ y,(l.set i y).drop (i + 1) = l.drop (i + 1):=fun y => List.drop_set_of_lt (by omega)
    have hfit2:fitSetS (l.set i (⟨(tx (k)),(mkAtomS l[i].Value (k + 1)),(mkStringS l[i].Names (k + 1 + (cntAtomS l[i].Value:Nat)))⟩)):=by
      unfold fitSetS at hfit ⊢
      exact ⟨by rw [List.length_set]; exact hfit.1,fun z hz => by
        rcases List.mem_or_eq_of_mem_set hz with hz | rfl
        · exact hfit.2 z hz
        · exact ⟨fit_mkAtomS _ _ hx.1,fit_mkStringS _ _ hx.2⟩⟩
    have ih:=p_markSetS_L1 n f (l.set i (⟨(tx (k)),(mkAtomS l[i].Value (k + 1)),(mkStringS l[i].Names (k + 1 + (cntAtomS l[i].Value:Nat)))⟩)) (i + 1) (k + 1 + (cntAtomS l[i].Value:Nat) + (cntStringS l[i].Names:Nat)) (by rw [List.length_set]; omega) (by omega) (by omega) hfit2 (by rw [hds]; omega)
    rw [hds] at ih
    rw [laws_markSetS_L1]
    simp only [hlt,hge,hix,hg,decide_true,and_self,if_true,Option.bind_some,List.set_set,wi,t0,w0,m1,m2]
    rw [ih,set_fill _ _ _ _ hi,mkSetS]
    refine congrArg some (Prod.ext ?_ rfl)
    simp only
    omega
theorem p_markSetS (l:List GSet) (k:Int) (hf:fitSetS l) (h0:1 ≤ k) (h1:k + (cntSetS l:Nat) < 2 ^ 62):laws_markSetS l k = some (k + (cntSetS l:Nat),mkSetS l k):=by
  unfold laws_markSetS
  have hl:l.length < 2 ^ 61:=hf.1
  rw [show (0:Int) = ((0:Nat):Int) from rfl,p_markSetS_L1 l.length FUEL l 0 k (by omega) (fuel_lt (by omega)) h0 hf (by simpa using h1)]
  simp
theorem len_mkSetS:∀ (l:List GSet) (k:Int),(mkSetS l k).length = l.length
  | [],_ => rfl
  | x :: l,k => by simp only [mkSetS,List.length_cons,len_mkSetS l]
theorem fit_mkSetS:∀ (l:List GSet) (k:Int),fitSetS l → fitSetS (mkSetS l k)
  | [],_,h => h
  | x :: l,k,h => by
    have h2:fitSetS l:=⟨by have:=h.1; simp at this; omega,fun y hy => h.2 y (by simp [hy])⟩
    have ih:=fit_mkSetS l (k + 1 + (cntAtomS x.Value:Nat) + (cntStringS x.Names:Nat)) h2
    have hx:=h.2 x (by simp)
    refine ⟨by rw [len_mkSetS]; exact h.1,fun z hz => ?_⟩
    rw [mkSetS] at hz
    rcases List.mem_cons.1 hz with rfl | hz
    · exact ⟨fit_mkAtomS _ _ hx.1,fit_mkStringS _ _ hx.2⟩
    · exact ih.2 z hz

def cntTable (x:GTable):Nat:=cntColumnS x.Columns + cntIntS x.Unique
def mkTable (x:GTable) (k:Int):GTable:=⟨x.Name,(mkColumnS x.Columns (k)),(mkIntS x.Unique (k + (cntColumnS x.Columns:Nat))),x.Root⟩
def fitTable (x:GTable):Prop:=fitColumnS x.Columns ∧ fitIntS x.Unique
theorem p_markTable (x:GTable) (k:Int) (hf:fitTable x) (h0:1 ≤ k) (h1:k + (cntTable x:Nat) < 2 ^ 62):laws_markTable x k = some (k + (cntTable x:Nat),mkTable x k):=by
  unfold cntTable at h1 ⊢
  unfold fitTable at hf
  have m0:=p_markColumnS x.Columns (k) hf.1 (by omega) (by omega)
  have m1:=p_markIntS x.Unique (k + (cntColumnS x.Columns:Nat)) hf.2 (by omega) (by omega)
  unfold laws_markTable
  simp only [m0,m1,Option.bind_some]
  refine congrArg some (Prod.ext ?_ rfl)
  (try simp only) <;> omega
end Go.R
