/- OpOK: the two ways come to one, and the law. Behind TXI, TXS, ORD, ORDI, ORDS, ATI, ATS, NM, OOF, OOH. -/
import Derived.Test.YthejoafcjkoahaaGreatOCH
set_option linter.all false
namespace Go.R
open Go
set_option linter.all false
def shortB (t:Str):Bool:=decide ((t.length:Int) ≤ 40)
theorem p_areShort (l:List Str):impl_areShort l = some (l.all shortB):=by
  unfold impl_areShort
  rw [p_slices_ContainsFunc_string_string _ (fun t => !shortB t) l (fun x _ => by unfold impl_areShort_1 shortB;congr 1;rw [Bool.eq_iff_iff];simp),Option.bind_some,List.not_any_eq_all_not]
  simp
def condB (c:GCond):Bool:=decide (1 ≤ c.Func ∧ c.Func ≤ 8) && datB c.Value && shortB c.Column
def mutB (c:GMut):Bool:=decide (1 ≤ c.Func ∧ c.Func ≤ 7) && datB c.Value && shortB c.Column
def setB (x:GSet):Bool:=shortB x.Column && datB x.Value && (x.Names.all nameOK && decide ((x.Names.length:Int) ≤ 8)) && (decide (x.Names = []) || decide (x.Value = []))
theorem p_condOK (c:GCond) (h:c.Value.length ≤ maxLen):impl_condOK c = some (condB c):=by
  unfold impl_condOK condB
  rw [p_within,Option.bind_some,p_DatumOK _ h,Option.bind_some,p_areShort,Option.bind_some]
  by_cases h1:(1 ≤ c.Func ∧ c.Func ≤ 8) <;> cases h2:datB c.Value <;> simp [h1]
theorem p_l06OK (c:GCond):spec_l06OK c = some (condB c):=by
  unfold spec_l06OK condB shortB
  rw [p_in,Option.bind_some,p_sDatumOK,Option.bind_some]
  by_cases h1:(1 ≤ c.Func ∧ c.Func ≤ 8) <;> cases h2:datB c.Value <;> simp [h1]
theorem p_mutOK (c:GMut) (h:c.Value.length ≤ maxLen):impl_mutOK c = some (mutB c):=by
  unfold impl_mutOK mutB
  rw [p_within,Option.bind_some,p_DatumOK _ h,Option.bind_some,p_areShort,Option.bind_some]
  by_cases h1:(1 ≤ c.Func ∧ c.Func ≤ 7) <;> cases h2:datB c.Value <;> simp [h1]
theorem p_l07OK (c:GMut):spec_l07OK c = some (mutB c):=by
  unfold spec_l07OK mutB shortB
  rw [p_in,Option.bind_some,p_sDatumOK,Option.bind_some]
  by_cases h1:(1 ≤ c.Func ∧ c.Func ≤ 7) <;> cases h2:datB c.Value <;> simp [h1]
theorem p_l06List_L1:∀ l:List GCond,spec_l06List_L1 l = some (if l.all condB = true then .go () else .ret false)
  | [] => by rw [spec_l06List_L1];simp
  | x :: xs => by
    rw [spec_l06List_L1,p_l06OK,Option.bind_some,p_l06List_L1 xs]
    cases h:condB x <;> simp [h]
theorem p_l06List (l:List GCond):spec_l06List l = some (l.all condB && decide ((l.length:Int) ≤ 8)):=by
  unfold spec_l06List
  rw [p_l06List_L1]
  cases l.all condB <;> simp
theorem p_l07List_L1:∀ l:List GMut,spec_l07List_L1 l = some (if l.all mutB = true then .go () else .ret false)
  | [] => by rw [spec_l07List_L1];simp
  | x :: xs => by
    rw [spec_l07List_L1,p_l07OK,Option.bind_some,p_l07List_L1 xs]
    cases h:mutB x <;> simp [h]
theorem p_l07List (l:List GMut):spec_l07List l = some (l.all mutB && decide ((l.length:Int) ≤ 8)):=by
  unfold spec_l07List
  rw [p_l07List_L1]
  cases l.all mutB <;> simp
theorem p_l08Names_L1:∀ l:List Str,spec_l08Names_L1 l = some (if l.all nameOK = true then .go () else .ret false)
  | [] => by rw [spec_l08Names_L1];simp
  | x :: xs => by
    rw [spec_l08Names_L1,p_specNameOK,Option.bind_some,p_l08Names_L1 xs]
    cases h:nameOK x <;> simp [h]
theorem p_l08Names (l:List Str):spec_l08Names l = some (l.all nameOK && decide ((l.length:Int) ≤ 8)):=by
  unfold spec_l08Names
  rw [p_l08Names_L1]
  cases l.all nameOK <;> simp
theorem p_l08Set (x:GSet):spec_l08Set x = some (setB x):=by
  unfold spec_l08Set setB shortB
  rw [p_sDatumOK,Option.bind_some,p_l08Names,Option.bind_some]
  by_cases h1:(x.Column.length:Int) ≤ 40 <;> cases h2:datB x.Value <;> cases h3:(x.Names.all nameOK && decide ((x.Names.length:Int) ≤ 8)) <;> by_cases h4:x.Names = [] <;> by_cases h5:x.Value = [] <;> simp [h1,h4,h5]
theorem p_setOK (x:GSet) (h:x.Value.length ≤ maxLen):impl_setOK x = some (setB x):=by
  unfold impl_setOK setB
  rw [p_areShort,Option.bind_some,p_DatumOK _ h,Option.bind_some,p_slices_ContainsFunc_string_string _ (fun t => !nameOK t) x.Names (fun y _ => by unfold impl_setOK_1;rw [p_NameOK];rfl),Option.bind_some,List.not_any_eq_all_not]
  have e:([x.Column].all shortB) = shortB x.Column:=by simp
  have e2:(x.Names.all fun a => !!nameOK a) = x.Names.all nameOK:=by simp
  rw [e,e2]
  have e3:decide ((x.Names.length:Int) ≤ 8) = !decide ((x.Names.length:Int) > 8):=by rw [Bool.eq_iff_iff];simp
  rw [e3]
  cases h1:shortB x.Column <;> cases h2:datB x.Value <;> cases h3:x.Names.all nameOK <;> cases h6:decide ((x.Names.length:Int) > 8) <;> by_cases h4:x.Names = [] <;> by_cases h5:x.Value = [] <;> simp [h4,h5,List.length_pos_iff]
theorem p_condsOK (l:List GCond) (h:∀ c ∈ l,c.Value.length ≤ maxLen):impl_condsOK l = some (l.all condB && decide ((l.length:Int) ≤ 8)):=by
  unfold impl_condsOK
  rw [p_slices_ContainsFunc_impl_Cond_impl_Cond _ (fun t => !condB t) l (fun x hx => by unfold impl_condsOK_1;rw [p_condOK x (h x hx)];rfl),Option.bind_some,List.not_any_eq_all_not]
  have e2:(l.all fun a => !!condB a) = l.all condB:=by simp
  rw [e2]
  by_cases c:(l.length:Int) ≤ 8 <;> simp [c]
theorem p_mutsOK (l:List GMut) (h:∀ c ∈ l,c.Value.length ≤ maxLen):impl_mutsOK l = some (l.all mutB && decide ((l.length:Int) ≤ 8)):=by
  unfold impl_mutsOK
  rw [p_slices_ContainsFunc_impl_Mut_impl_Mut _ (fun t => !mutB t) l (fun x hx => by unfold impl_mutsOK_1;rw [p_mutOK x (h x hx)];rfl),Option.bind_some,List.not_any_eq_all_not]
  have e2:(l.all fun a => !!mutB a) = l.all mutB:=by simp
  rw [e2]
  by_cases c:(l.length:Int) ≤ 8 <;> simp [c]
theorem p_setsOK (l:List GSet) (h:∀ c ∈ l,c.Value.length ≤ maxLen):impl_setsOK l = some (l.all setB && decide ((l.length:Int) ≤ 6)):=by
  unfold impl_setsOK
  rw [p_slices_ContainsFunc_impl_Set_impl_Set _ (fun t => !setB t) l (fun x hx => by unfold impl_setsOK_1;rw [p_setOK x (h x hx)];rfl),Option.bind_some,List.not_any_eq_all_not]
  have e2:(l.all fun a => !!setB a) = l.all setB:=by simp
  rw [e2]
  by_cases c:(l.length:Int) ≤ 6 <;> simp [c]
theorem p_OpOK_L1:∀ l:List GSet,spec_OpOK_L1 l = some (if l.all setB = true then .go () else .ret false)
  | [] => by rw [spec_OpOK_L1];simp
  | x :: xs => by
    rw [spec_OpOK_L1,p_l08Set,Option.bind_some,p_OpOK_L1 xs]
    cases h:setB x <;> simp [h]
theorem p_OpOK_L2:∀ l:List Str,spec_OpOK_L2 l = some (if l.all shortB = true then .go () else .ret false)
  | [] => by rw [spec_OpOK_L2];simp
  | x :: xs => by
    rw [spec_OpOK_L2,p_OpOK_L2 xs]
    by_cases h:(x.length:Int) > 40
    · have:¬ (x.length:Int) ≤ 40:=by omega
      simp [h,shortB,this]
    · have:(x.length:Int) ≤ 40:=by omega
      simp [h,shortB,this]
def useB (o:GOp):Bool :=
  decide (1 ≤ o.Kind ∧ o.Kind ≤ 10) && (decide (1 ≤ o.Kind ∧ o.Kind ≤ 6) || decide (o.Table = [])) && (decide (2 ≤ o.Kind ∧ o.Kind ≤ 6) || decide (o.Where = [])) && (decide (o.Kind = 1) || decide (o.Kind ≥ 9) || decide (o.Name = [])) && (decide (o.Kind = 1) || decide (o.Kind = 3) || decide (o.Kind = 6) || decide (o.Row = [])) && (decide (o.Kind = 4) || decide (o.Muts = [])) && (decide (o.Kind = 2) || decide (o.Columns = [])) && (decide (o.Kind = 6) || !o.Until)
theorem kinds (k:Int):k = 1 ∨ k = 2 ∨ k = 3 ∨ k = 4 ∨ k = 5 ∨ k = 6 ∨ k = 7 ∨ k = 8 ∨ k = 9 ∨ k = 10 ∨ ¬ (1 ≤ k ∧ k ≤ 10):=by omega
set_option maxHeartbeats 8000000 in
theorem p_isUnused (o:GOp):impl_Op_isUnused o = some (useB o):=by
  unfold impl_Op_isUnused useB
  rcases kinds o.Kind with h | h | h | h | h | h | h | h | h | h | h
  all_goals try (simp only [h];by_cases h1:o.Name = [] <;> by_cases h2:o.Where = [] <;> by_cases h3:o.Row = [] <;> by_cases h4:o.Muts = [] <;> by_cases h5:o.Columns = [] <;> by_cases h6:o.Table = [] <;> simp [h1,h2,h3,h4,h5,h6];done)
  have e1:¬ o.Kind = 1:=by omega
  have e2:¬ o.Kind = 2:=by omega
  have e3:¬ o.Kind = 3:=by omega
  have e4:¬ o.Kind = 4:=by omega
  have e5:¬ o.Kind = 5:=by omega
  have e6:¬ o.Kind = 6:=by omega
  have e7:¬ o.Kind = 7:=by omega
  have e8:¬ o.Kind = 8:=by omega
  have e9:¬ o.Kind = 9:=by omega
  have e10:¬ o.Kind = 10:=by omega
  simp [e1,e2,e3,e4,e5,e6,e7,e8,e9,e10,h]
def opB (o:GOp):Bool:=useB o && (shortB o.Table && shortB o.Name) && decide ((o.Columns.length:Int) ≤ 6) && o.Columns.all shortB && (o.Where.all condB && decide ((o.Where.length:Int) ≤ 8)) && (o.Muts.all mutB && decide ((o.Muts.length:Int) ≤ 8)) && (o.Row.all setB && decide ((o.Row.length:Int) ≤ 6))
structure OpLen (o:GOp):Prop where
  w:∀ c ∈ o.Where,c.Value.length ≤ maxLen
  m:∀ c ∈ o.Muts,c.Value.length ≤ maxLen
  r:∀ c ∈ o.Row,c.Value.length ≤ maxLen
theorem p_OpOK (o:GOp) (h:OpLen o):impl_OpOK o = some (opB o):=by
  unfold impl_OpOK opB
  rw [p_isUnused,Option.bind_some,p_areShort,Option.bind_some,p_areShort,Option.bind_some,p_condsOK _ h.w,Option.bind_some,p_mutsOK _ h.m,Option.bind_some,p_setsOK _ h.r,Option.bind_some]
  have e:([o.Table,o.Name].all shortB) = (shortB o.Table && shortB o.Name):=by simp
  rw [e]
  cases useB o <;> cases (shortB o.Table && shortB o.Name) <;> cases decide ((o.Columns.length:Int) ≤ 6) <;> cases o.Columns.all shortB <;> cases (o.Where.all condB && decide ((o.Where.length:Int) ≤ 8)) <;> cases (o.Muts.all mutB && decide ((o.Muts.length:Int) ≤ 8)) <;> simp
set_option maxHeartbeats 8000000 in
theorem p_sOpOK (o:GOp):spec_OpOK o = some (opB o):=by
  unfold spec_OpOK opB
  simp only [p_in,p_l06List,p_l07List,Option.bind_some,p_OpOK_L1,p_OpOK_L2]
  generalize (o.Where.all condB && decide ((o.Where.length:Int) ≤ 8)) = W
  generalize (o.Muts.all mutB && decide ((o.Muts.length:Int) ≤ 8)) = M
  generalize o.Row.all setB = R
  generalize o.Columns.all shortB = S
  by_cases hk:1 ≤ o.Kind ∧ o.Kind ≤ 10
  · by_cases ht:(o.Table.length:Int) ≤ 40
    · by_cases hn:(o.Name.length:Int) ≤ 40
      · have ht':¬ (40:Int) < (o.Table.length:Int):=by omega
        have hn':¬ (40:Int) < (o.Name.length:Int):=by omega
        cases W with
        | false => simp [hk,ht',hn']
        | true =>
          cases M with
          | false => simp [hk,ht',hn']
          | true =>
            by_cases hr:(o.Row.length:Int) ≤ 6
            · by_cases hc:(o.Columns.length:Int) ≤ 6
              · have hr':¬ (6:Int) < (o.Row.length:Int):=by omega
                have hc':¬ (6:Int) < (o.Columns.length:Int):=by omega
                cases R with
                | false => simp [hk,ht',hn',hr',hc']
                | true =>
                  cases S with
                  | false => simp [hk,ht',hn',hr',hc']
                  | true =>
                    have e:(useB o && (shortB o.Table && shortB o.Name) && decide ((o.Columns.length:Int) ≤ 6) && true && true && true && (true && decide ((o.Row.length:Int) ≤ 6))) = useB o:=by simp [shortB,ht,hn,hr,hc]
                    rw [e]
                    simp only [hk,ht',hn',hr',hc',gt_iff_lt,and_self,decide_true,decide_false,Bool.not_true,Bool.false_eq_true,if_false,if_true,Option.bind_some]
                    unfold useB
                    rcases kinds o.Kind with h | h | h | h | h | h | h | h | h | h | h
                    all_goals try (simp only [h];by_cases h1:o.Name = [] <;> by_cases h2:o.Where = [] <;> by_cases h3:o.Row = [] <;> by_cases h4:o.Muts = [] <;> by_cases h5:o.Columns = [] <;> by_cases h6:o.Table = [] <;> simp [h1,h2,h3,h4,h5,h6];done)
                    exact absurd hk h
              · have hc':(6:Int) < (o.Columns.length:Int):=by omega
                have hr':¬ (6:Int) < (o.Row.length:Int):=by omega
                simp [hk,ht',hn',hr',hc',hc]
            · have hr':(6:Int) < (o.Row.length:Int):=by omega
              simp [hk,ht',hn',hr',hr]
      · have ht':¬ (40:Int) < (o.Table.length:Int):=by omega
        have hn':(40:Int) < (o.Name.length:Int):=by omega
        simp [hk,ht',hn',shortB,hn]
    · have ht':(40:Int) < (o.Table.length:Int):=by omega
      simp [hk,ht',shortB,ht]
  · have:useB o = false:=by unfold useB;simp [hk]
    rw [this]
    simp [hk]
end Go.R
