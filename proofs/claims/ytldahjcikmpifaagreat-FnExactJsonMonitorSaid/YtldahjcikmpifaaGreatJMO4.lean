import Derived.Test.YtldahjcikmpifaaGreatJMO3
set_option linter.all false
namespace Go.R
open Go Go.Proofs
set_option maxHeartbeats 8000000
theorem c0h {α:Type} {k:List UInt8} {v:α}:∀ {m:List (List UInt8 × α)},b0e m k = some v → (k,v) ∈ m
  | [],h => by cases h
  | (k',v') :: m,h => by
    rw [b0e] at h
    split at h
    · rename_i e;cases h;subst e;simp
    · exact List.mem_cons_of_mem _ (c0h h)
theorem c7h {α:Type} {k:List UInt8}:∀ {m:List (List UInt8 × α)},b0e m k = none → k ∉ m.map Prod.fst
  | [],_ => by simp
  | (k',v') :: m,h => by
    rw [b0e] at h
    split at h
    · cases h
    · rename_i e
      have:=c7h h
      simp only [List.map_cons,List.mem_cons,not_or]
      exact ⟨fun h => e h.symm,this⟩
theorem a9g {a b c d z V:AV} {k:List UInt8} {m:List (List UInt8 × AV)} (hV:V = (b0e [(([105,110,105,116,105,97,108]:List UInt8),a),([105,110,115,101,114,116],b),([100,101,108,101,116,101],c),([109,111,100,105,102,121],d)] k).getD z)
    (h:(∀ x ∈ m,x ∈ [(([105,110,105,116,105,97,108]:List UInt8),a),([105,110,115,101,114,116],b),([100,101,108,101,116,101],c),([109,111,100,105,102,121],d)]) ∧ ∀ x ∈ [(([105,110,105,116,105,97,108]:List UInt8),a),([105,110,115,101,114,116],b),([100,101,108,101,116,101],c),([109,111,100,105,102,121],d)],x.1 ∈ m.map Prod.fst):(b0e m k).getD z = V:=by
  have key:b0e m k = b0e [(([105,110,105,116,105,97,108]:List UInt8),a),([105,110,115,101,114,116],b),([100,101,108,101,116,101],c),([109,111,100,105,102,121],d)] k:=by
    cases h1:b0e m k with
    | some v =>
      have:=h.1 _ (c0h h1)
      simp only [List.mem_cons,List.not_mem_nil,or_false,Prod.mk.injEq] at this
      rcases this with ⟨rfl,rfl⟩ | ⟨rfl,rfl⟩ | ⟨rfl,rfl⟩ | ⟨rfl,rfl⟩ <;> rfl
    | none =>
      have h2:=c7h h1
      cases h3:b0e [(([105,110,105,116,105,97,108]:List UInt8),a),([105,110,115,101,114,116],b),([100,101,108,101,116,101],c),([109,111,100,105,102,121],d)] k with
      | none => rfl
      | some v => exact absurd (h.2 _ (c0h h3)) h2
  rw [key,← hV]
abbrev wz5:List a4q:=[⟨(some 59),none,.faddr 6 (.t 58)⟩,⟨(some 58),none,.nilck (.t 57)⟩,⟨(some 56),none,.faddr 5 (.t 55)⟩,⟨(some 55),none,.nilck (.t 54)⟩,⟨(some 53),none,.faddr 4 (.t 52)⟩,⟨(some 52),none,.nilck (.t 51)⟩]
abbrev wz6:List a4q:=[⟨(some 59),none,.faddr 6 (.t 58)⟩,⟨(some 58),none,.nilck (.t 57)⟩,⟨(some 56),none,.faddr 5 (.t 55)⟩,⟨(some 55),none,.nilck (.t 54)⟩,⟨(some 50),none,.faddr 3 (.t 49)⟩,⟨(some 49),none,.nilck (.t 48)⟩]
abbrev wz7:List a4q:=[⟨(some 59),none,.faddr 6 (.t 58)⟩,⟨(some 58),none,.nilck (.t 57)⟩,⟨(some 53),none,.faddr 4 (.t 52)⟩,⟨(some 52),none,.nilck (.t 51)⟩,⟨(some 50),none,.faddr 3 (.t 49)⟩,⟨(some 49),none,.nilck (.t 48)⟩]
abbrev wz8:List a4q:=[⟨(some 56),none,.faddr 5 (.t 55)⟩,⟨(some 55),none,.nilck (.t 54)⟩,⟨(some 53),none,.faddr 4 (.t 52)⟩,⟨(some 52),none,.nilck (.t 51)⟩,⟨(some 50),none,.faddr 3 (.t 49)⟩,⟨(some 49),none,.nilck (.t 48)⟩]
def d7n:a0q :=
 (.seq (.reg (tq 5 (.box 5 (.t 2)) (tm 6 (.c (.bool false)) .done)))
 (.seq (.reg (tm 7 (.c (.bool false)) .done))
 (.seq (.seq (.reg (tm 9 (.t 1) .done))
 (.block 0 (.seq (.reg (tq 11 (.bin .eql (.t 9) (.c (.str [116,97,98,108,101]))) (tm 10 (.t 11) .done)))
 (.cond (.t 10) (.seq (.reg (tm 12 (.t 0) (tq 13 (.faddr 2 (.t 5)) (tq 14 (.load 1 false (.t 13)) (tq 15 (.nilck (.t 12)) (tq 16 (.faddr 1 (.t 15)) (.q ⟨none,none,.store 1 (.t 16) (.t 14)⟩
 .done)))))))
 (.seq (.reg (tq 17 (.faddr 0 (.t 5)) (tq 18 (.load 1 false (.t 17)) (tq 19 (.bin .eql (.t 18) (.c (.int .i64 3))) (tm 20 (.t 19) (tg 21 20 true (.faddr 2 (.t 5)) (tg 22 20 true (.load 1 false (.t 21)) (tg 23 20 true (.bin .neq (.t 22) (.c (.str []))) (tq 24 (.pick (.t 20) (.t 23) (.c (.bool false))) (tm 6 (.t 24) .done))))))))))
 .ret))
 (.seq (.reg (tq 26 (.bin .eql (.t 9) (.c (.str [99,111,108,117,109,110,115]))) (tm 25 (.t 26) .done)))
 (.cond (.t 25) (.seq (.reg (tm 28 (.t 0) (tq 29 (.load 5 true (.t 5)) (tq 30 (.call 316 [(.t 29)]) (tm 27 (.t 30) (tq 31 (.extract 0 (.t 27)) (tq 32 (.extract 1 (.t 27)) (tq 33 (.nilck (.t 28)) (tq 34 (.faddr 2 (.t 33)) (.q ⟨none,none,.store 1 (.t 34) (.t 31)⟩
 (tm 7 (.t 32) .done)))))))))))
 (.seq (.reg (tm 35 (.t 7) (tm 6 (.t 35) .done)))
 .ret))
 (.seq (.reg (tq 37 (.bin .eql (.t 9) (.c (.str [119,104,101,114,101]))) (tm 36 (.t 37) .done)))
 (.cond (.t 36) (.seq (.reg (tm 39 (.t 0) (tq 40 (.load 5 true (.t 5)) (tq 41 (.call 317 [(.t 40)]) (tm 38 (.t 41) (tq 42 (.extract 0 (.t 38)) (tq 43 (.extract 1 (.t 38)) (tq 44 (.nilck (.t 39)) (tq 45 (.faddr 7 (.t 44)) (.q ⟨none,none,.store 1 (.t 45) (.t 42)⟩
 (tm 7 (.t 43) .done)))))))))))
 (.seq (.reg (tm 46 (.t 7) (tm 6 (.t 46) .done)))
 .ret))
 .skip))))))))
 (.seq (.reg (tm 48 (.t 0) (tq 49 (.nilck (.t 48)) (tq 50 (.faddr 3 (.t 49)) (tm 51 (.t 0) (tq 52 (.nilck (.t 51)) (tq 53 (.faddr 4 (.t 52)) (tm 54 (.t 0) (tq 55 (.nilck (.t 54)) (tq 56 (.faddr 5 (.t 55)) (tm 57 (.t 0) (tq 58 (.nilck (.t 57)) (tq 59 (.faddr 6 (.t 58)) (tm 61 (.t 1) (.l ⟨(some 47),none,.mkmap⟩ [⟨(some 59),none,.faddr 6 (.t 58)⟩,⟨(some 58),none,.nilck (.t 57)⟩,⟨(some 56),none,.faddr 5 (.t 55)⟩,⟨(some 55),none,.nilck (.t 54)⟩,⟨(some 53),none,.faddr 4 (.t 52)⟩,⟨(some 52),none,.nilck (.t 51)⟩,⟨(some 50),none,.faddr 3 (.t 49)⟩,⟨(some 49),none,.nilck (.t 48)⟩]
 (.l ⟨none,none,.mapset (.t 47) (.c (.str [105,110,105,116,105,97,108])) (.t 50)⟩ wz5
 (.l ⟨none,none,.mapset (.t 47) (.c (.str [105,110,115,101,114,116])) (.t 53)⟩ wz6
 (.l ⟨none,none,.mapset (.t 47) (.c (.str [100,101,108,101,116,101])) (.t 56)⟩ wz7
 (.l ⟨none,none,.mapset (.t 47) (.c (.str [109,111,100,105,102,121])) (.t 59)⟩ wz8
 (tm 60 (.t 47) (.l ⟨(some 62),none,.mapget (.hdr (.pointer none) 0 []) (.t 60) (.t 61)⟩ []
 (tm 8 (.t 62) .done) .non)) .non) (.l ⟨none,none,.mapset (.t 47) (.c (.str [109,111,100,105,102,121])) (.t 59)⟩ wz8
 (.l ⟨none,none,.mapset (.t 47) (.c (.str [100,101,108,101,116,101])) (.t 56)⟩ wz7
 (tm 60 (.t 47) (.l ⟨(some 62),none,.mapget (.hdr (.pointer none) 0 []) (.t 60) (.t 61)⟩ []
 (tm 8 (.t 62) .done) .non)) .non) .non)) (.l ⟨none,none,.mapset (.t 47) (.c (.str [100,101,108,101,116,101])) (.t 56)⟩ wz7
 (.l ⟨none,none,.mapset (.t 47) (.c (.str [105,110,115,101,114,116])) (.t 53)⟩ wz6
 (.l ⟨none,none,.mapset (.t 47) (.c (.str [109,111,100,105,102,121])) (.t 59)⟩ wz8
 (tm 60 (.t 47) (.l ⟨(some 62),none,.mapget (.hdr (.pointer none) 0 []) (.t 60) (.t 61)⟩ []
 (tm 8 (.t 62) .done) .non)) .non) (.l ⟨none,none,.mapset (.t 47) (.c (.str [109,111,100,105,102,121])) (.t 59)⟩ wz8
 (.l ⟨none,none,.mapset (.t 47) (.c (.str [105,110,115,101,114,116])) (.t 53)⟩ wz6
 (tm 60 (.t 47) (.l ⟨(some 62),none,.mapget (.hdr (.pointer none) 0 []) (.t 60) (.t 61)⟩ []
 (tm 8 (.t 62) .done) .non)) .non) .non)) (.l ⟨none,none,.mapset (.t 47) (.c (.str [109,111,100,105,102,121])) (.t 59)⟩ wz8
 (.l ⟨none,none,.mapset (.t 47) (.c (.str [105,110,115,101,114,116])) (.t 53)⟩ wz6
 (.l ⟨none,none,.mapset (.t 47) (.c (.str [100,101,108,101,116,101])) (.t 56)⟩ wz7
 (tm 60 (.t 47) (.l ⟨(some 62),none,.mapget (.hdr (.pointer none) 0 []) (.t 60) (.t 61)⟩ []
 (tm 8 (.t 62) .done) .non)) .non) (.l ⟨none,none,.mapset (.t 47) (.c (.str [100,101,108,101,116,101])) (.t 56)⟩ wz7
 (.l ⟨none,none,.mapset (.t 47) (.c (.str [105,110,115,101,114,116])) (.t 53)⟩ wz6
 (tm 60 (.t 47) (.l ⟨(some 62),none,.mapget (.hdr (.pointer none) 0 []) (.t 60) (.t 61)⟩ []
 (tm 8 (.t 62) .done) .non)) .non) .non)) .non))) (.l ⟨none,none,.mapset (.t 47) (.c (.str [105,110,115,101,114,116])) (.t 53)⟩ wz6
 (.l ⟨none,none,.mapset (.t 47) (.c (.str [105,110,105,116,105,97,108])) (.t 50)⟩ wz5
 (.l ⟨none,none,.mapset (.t 47) (.c (.str [100,101,108,101,116,101])) (.t 56)⟩ wz7
 (.l ⟨none,none,.mapset (.t 47) (.c (.str [109,111,100,105,102,121])) (.t 59)⟩ wz8
 (tm 60 (.t 47) (.l ⟨(some 62),none,.mapget (.hdr (.pointer none) 0 []) (.t 60) (.t 61)⟩ []
 (tm 8 (.t 62) .done) .non)) .non) (.l ⟨none,none,.mapset (.t 47) (.c (.str [109,111,100,105,102,121])) (.t 59)⟩ wz8
 (.l ⟨none,none,.mapset (.t 47) (.c (.str [100,101,108,101,116,101])) (.t 56)⟩ wz7
 (tm 60 (.t 47) (.l ⟨(some 62),none,.mapget (.hdr (.pointer none) 0 []) (.t 60) (.t 61)⟩ []
 (tm 8 (.t 62) .done) .non)) .non) .non)) (.l ⟨none,none,.mapset (.t 47) (.c (.str [100,101,108,101,116,101])) (.t 56)⟩ wz7
 (.l ⟨none,none,.mapset (.t 47) (.c (.str [105,110,105,116,105,97,108])) (.t 50)⟩ wz5
 (.l ⟨none,none,.mapset (.t 47) (.c (.str [109,111,100,105,102,121])) (.t 59)⟩ wz8
 (tm 60 (.t 47) (.l ⟨(some 62),none,.mapget (.hdr (.pointer none) 0 []) (.t 60) (.t 61)⟩ []
 (tm 8 (.t 62) .done) .non)) .non) (.l ⟨none,none,.mapset (.t 47) (.c (.str [109,111,100,105,102,121])) (.t 59)⟩ wz8
 (.l ⟨none,none,.mapset (.t 47) (.c (.str [105,110,105,116,105,97,108])) (.t 50)⟩ wz5
 (tm 60 (.t 47) (.l ⟨(some 62),none,.mapget (.hdr (.pointer none) 0 []) (.t 60) (.t 61)⟩ []
 (tm 8 (.t 62) .done) .non)) .non) .non)) (.l ⟨none,none,.mapset (.t 47) (.c (.str [109,111,100,105,102,121])) (.t 59)⟩ wz8
 (.l ⟨none,none,.mapset (.t 47) (.c (.str [105,110,105,116,105,97,108])) (.t 50)⟩ wz5
 (.l ⟨none,none,.mapset (.t 47) (.c (.str [100,101,108,101,116,101])) (.t 56)⟩ wz7
 (tm 60 (.t 47) (.l ⟨(some 62),none,.mapget (.hdr (.pointer none) 0 []) (.t 60) (.t 61)⟩ []
 (tm 8 (.t 62) .done) .non)) .non) (.l ⟨none,none,.mapset (.t 47) (.c (.str [100,101,108,101,116,101])) (.t 56)⟩ wz7
 (.l ⟨none,none,.mapset (.t 47) (.c (.str [105,110,105,116,105,97,108])) (.t 50)⟩ wz5
 (tm 60 (.t 47) (.l ⟨(some 62),none,.mapget (.hdr (.pointer none) 0 []) (.t 60) (.t 61)⟩ []
 (tm 8 (.t 62) .done) .non)) .non) .non)) .non))) (.l ⟨none,none,.mapset (.t 47) (.c (.str [100,101,108,101,116,101])) (.t 56)⟩ wz7
 (.l ⟨none,none,.mapset (.t 47) (.c (.str [105,110,105,116,105,97,108])) (.t 50)⟩ wz5
 (.l ⟨none,none,.mapset (.t 47) (.c (.str [105,110,115,101,114,116])) (.t 53)⟩ wz6
 (.l ⟨none,none,.mapset (.t 47) (.c (.str [109,111,100,105,102,121])) (.t 59)⟩ wz8
 (tm 60 (.t 47) (.l ⟨(some 62),none,.mapget (.hdr (.pointer none) 0 []) (.t 60) (.t 61)⟩ []
 (tm 8 (.t 62) .done) .non)) .non) (.l ⟨none,none,.mapset (.t 47) (.c (.str [109,111,100,105,102,121])) (.t 59)⟩ wz8
 (.l ⟨none,none,.mapset (.t 47) (.c (.str [105,110,115,101,114,116])) (.t 53)⟩ wz6
 (tm 60 (.t 47) (.l ⟨(some 62),none,.mapget (.hdr (.pointer none) 0 []) (.t 60) (.t 61)⟩ []
 (tm 8 (.t 62) .done) .non)) .non) .non)) (.l ⟨none,none,.mapset (.t 47) (.c (.str [105,110,115,101,114,116])) (.t 53)⟩ wz6
 (.l ⟨none,none,.mapset (.t 47) (.c (.str [105,110,105,116,105,97,108])) (.t 50)⟩ wz5
 (.l ⟨none,none,.mapset (.t 47) (.c (.str [109,111,100,105,102,121])) (.t 59)⟩ wz8
 (tm 60 (.t 47) (.l ⟨(some 62),none,.mapget (.hdr (.pointer none) 0 []) (.t 60) (.t 61)⟩ []
 (tm 8 (.t 62) .done) .non)) .non) (.l ⟨none,none,.mapset (.t 47) (.c (.str [109,111,100,105,102,121])) (.t 59)⟩ wz8
 (.l ⟨none,none,.mapset (.t 47) (.c (.str [105,110,105,116,105,97,108])) (.t 50)⟩ wz5
 (tm 60 (.t 47) (.l ⟨(some 62),none,.mapget (.hdr (.pointer none) 0 []) (.t 60) (.t 61)⟩ []
 (tm 8 (.t 62) .done) .non)) .non) .non)) (.l ⟨none,none,.mapset (.t 47) (.c (.str [109,111,100,105,102,121])) (.t 59)⟩ wz8
 (.l ⟨none,none,.mapset (.t 47) (.c (.str [105,110,105,116,105,97,108])) (.t 50)⟩ wz5
 (.l ⟨none,none,.mapset (.t 47) (.c (.str [105,110,115,101,114,116])) (.t 53)⟩ wz6
 (tm 60 (.t 47) (.l ⟨(some 62),none,.mapget (.hdr (.pointer none) 0 []) (.t 60) (.t 61)⟩ []
 (tm 8 (.t 62) .done) .non)) .non) (.l ⟨none,none,.mapset (.t 47) (.c (.str [105,110,115,101,114,116])) (.t 53)⟩ wz6
 (.l ⟨none,none,.mapset (.t 47) (.c (.str [105,110,105,116,105,97,108])) (.t 50)⟩ wz5
 (tm 60 (.t 47) (.l ⟨(some 62),none,.mapget (.hdr (.pointer none) 0 []) (.t 60) (.t 61)⟩ []
 (tm 8 (.t 62) .done) .non)) .non) .non)) .non))) (.l ⟨none,none,.mapset (.t 47) (.c (.str [109,111,100,105,102,121])) (.t 59)⟩ wz8
 (.l ⟨none,none,.mapset (.t 47) (.c (.str [105,110,105,116,105,97,108])) (.t 50)⟩ wz5
 (.l ⟨none,none,.mapset (.t 47) (.c (.str [105,110,115,101,114,116])) (.t 53)⟩ wz6
 (.l ⟨none,none,.mapset (.t 47) (.c (.str [100,101,108,101,116,101])) (.t 56)⟩ wz7
 (tm 60 (.t 47) (.l ⟨(some 62),none,.mapget (.hdr (.pointer none) 0 []) (.t 60) (.t 61)⟩ []
 (tm 8 (.t 62) .done) .non)) .non) (.l ⟨none,none,.mapset (.t 47) (.c (.str [100,101,108,101,116,101])) (.t 56)⟩ wz7
 (.l ⟨none,none,.mapset (.t 47) (.c (.str [105,110,115,101,114,116])) (.t 53)⟩ wz6
 (tm 60 (.t 47) (.l ⟨(some 62),none,.mapget (.hdr (.pointer none) 0 []) (.t 60) (.t 61)⟩ []
 (tm 8 (.t 62) .done) .non)) .non) .non)) (.l ⟨none,none,.mapset (.t 47) (.c (.str [105,110,115,101,114,116])) (.t 53)⟩ wz6
 (.l ⟨none,none,.mapset (.t 47) (.c (.str [105,110,105,116,105,97,108])) (.t 50)⟩ wz5
 (.l ⟨none,none,.mapset (.t 47) (.c (.str [100,101,108,101,116,101])) (.t 56)⟩ wz7
 (tm 60 (.t 47) (.l ⟨(some 62),none,.mapget (.hdr (.pointer none) 0 []) (.t 60) (.t 61)⟩ []
 (tm 8 (.t 62) .done) .non)) .non) (.l ⟨none,none,.mapset (.t 47) (.c (.str [100,101,108,101,116,101])) (.t 56)⟩ wz7
 (.l ⟨none,none,.mapset (.t 47) (.c (.str [105,110,105,116,105,97,108])) (.t 50)⟩ wz5
 (tm 60 (.t 47) (.l ⟨(some 62),none,.mapget (.hdr (.pointer none) 0 []) (.t 60) (.t 61)⟩ []
 (tm 8 (.t 62) .done) .non)) .non) .non)) (.l ⟨none,none,.mapset (.t 47) (.c (.str [100,101,108,101,116,101])) (.t 56)⟩ wz7
 (.l ⟨none,none,.mapset (.t 47) (.c (.str [105,110,105,116,105,97,108])) (.t 50)⟩ wz5
 (.l ⟨none,none,.mapset (.t 47) (.c (.str [105,110,115,101,114,116])) (.t 53)⟩ wz6
 (tm 60 (.t 47) (.l ⟨(some 62),none,.mapget (.hdr (.pointer none) 0 []) (.t 60) (.t 61)⟩ []
 (tm 8 (.t 62) .done) .non)) .non) (.l ⟨none,none,.mapset (.t 47) (.c (.str [105,110,115,101,114,116])) (.t 53)⟩ wz6
 (.l ⟨none,none,.mapset (.t 47) (.c (.str [105,110,105,116,105,97,108])) (.t 50)⟩ wz5
 (tm 60 (.t 47) (.l ⟨(some 62),none,.mapget (.hdr (.pointer none) 0 []) (.t 60) (.t 61)⟩ []
 (tm 8 (.t 62) .done) .non)) .non) .non)) .non))) .non)))) .non)))))))))))))))
 (.cut (.seq (.seq (.reg (tm 63 (.t 8) (tq 64 (.isnilp false (.t 63)) .done)))
 (.cond (.t 64) (.seq (.reg (tm 6 (.c (.bool false)) .done))
 .ret)
 .skip))
 (.seq (.reg (tm 65 (.t 8) (tq 66 (.faddr 1 (.t 5)) (tq 67 (.load 1 false (.t 66)) (tq 68 (.bin .eql (.t 67) (.c (.int .i64 1))) (tq 69 (.nilck (.t 65)) (.q ⟨none,none,.store 1 (.t 69) (.t 68)⟩
 .done)))))))
 (.seq (.reg (tq 70 (.faddr 0 (.t 5)) (tq 71 (.load 1 false (.t 70)) (tq 72 (.bin .eql (.t 71) (.c (.int .i64 1))) (tm 6 (.t 72) .done)))))
 .ret))))))))
theorem e1g:a1b Tryz.prog Tryz.f257 = some (d7n.erase,[.mov (.t 6)],73):=by kernel_rfl
def a6c (B:Str) (A:y8) (F:Str) (O:Str) (E:(List Str)) (J:Bool) (K:Bool) (L:Bool) (M:Bool) (D:(List a0m)):Option (Bool × a0k) :=
    if (B == [116,97,98,108,101]) then
    if (A.Kind == 3) then
    some ((!(A.T == [])),(⟨F,A.T,E,J,K,L,M,D⟩:a0k))
    else
    some (false,(⟨F,A.T,E,J,K,L,M,D⟩:a0k))
    else
    if (B == [99,111,108,117,109,110,115]) then
    (a8t A).bind fun G =>
    some (G.2,(⟨F,O,G.1,J,K,L,M,D⟩:a0k))
    else
    if (B == [119,104,101,114,101]) then
    (a8u A).bind fun H =>
    some (H.2,(⟨F,O,E,J,K,L,M,H.1⟩:a0k))
    else
    if B == [105,110,105,116,105,97,108] then
    ((some ():Option Unit)).bind fun _ =>
    some ((A.Kind == 1),(⟨F,O,E,(A.N == 1),K,L,M,D⟩:a0k))
    else
    if B == [105,110,115,101,114,116] then
    ((some ():Option Unit)).bind fun _ =>
    some ((A.Kind == 1),(⟨F,O,E,J,(A.N == 1),L,M,D⟩:a0k))
    else
    if B == [100,101,108,101,116,101] then
    ((some ():Option Unit)).bind fun _ =>
    some ((A.Kind == 1),(⟨F,O,E,J,K,(A.N == 1),M,D⟩:a0k))
    else
    if B == [109,111,100,105,102,121] then
    ((some ():Option Unit)).bind fun _ =>
    some ((A.Kind == 1),(⟨F,O,E,J,K,L,(A.N == 1),D⟩:a0k))
    else
    ((some ():Option Unit)).bind fun _ =>
    some (false,(⟨F,O,E,J,K,L,M,D⟩:a0k))
theorem b6h (B:Str) (A:y8) (F:Str) (O:Str) (E:(List Str)) (J:Bool) (K:Bool) (L:Bool) (M:Bool) (D:(List a0m)) (r:(Bool × a0k)) (hf:a6c B A F O E J K L M D = some r):a0z Tryz.prog true 257 [(.ptr 0 0 0),(.str B),(l9 A)] [.box 8 (.agg [(.str F),(.str O),(.own 1 0 E.length),(.bool J),(.bool K),(.bool L),(.bool M),(.own 2 0 D.length)]),.row 1 (E.map AV.str),.row 3 (D.map o8)] (.bool r.1) [.box 8 (.agg [(.str r.2.Name),(.str r.2.Table),(.own 3 0 r.2.Columns.length),(.bool r.2.Initial),(.bool r.2.Insert),(.bool r.2.Delete),(.bool r.2.Modify),(.own 4 0 r.2.Where.length)]),.dead,.dead,.row 1 (r.2.Columns.map AV.str),.row 3 (r.2.Where.map o8)]:=by
 refine a0z.of_awp mixed Tryz.func257 e1g nle ?_;rw [a0l];rw [o9 A];unfold a6c at hf;unfold d7n;refine (show awp Tryz.prog true 3 _ (ofL [(0,(.ptr 0 0 0)),(1,(.str B)),(2,(.agg [(.I A.Kind),(.I A.N),(.str A.T),(.lst 1 (A.Keys.map AV.str)),(.lst 5 (A.Items.map l9))]))]) [.box 8 (.agg [(.str F),(.str O),(.own 1 0 E.length),(.bool J),(.bool K),(.bool L),(.bool M),(.own 2 0 D.length)]),.row 1 (E.map AV.str),.row 3 (D.map o8)] _ from ?_);refine sr<|y7 (a1i (j:=3) (c:=(.agg [(.I A.Kind),(.I A.N),(.str A.T),(.lst 1 (A.Keys.map AV.str)),(.lst 5 (A.Items.map l9))])) rfl tr rfl rfl)<|?_
 refine l7 (.bool false) rfl<|dk<|sr<|l7 (.bool false) rfl<|dk<|o6<|sr<|l7 (.str B) rfl<|dk<|a2y<|sr<|o7 (.bool (B == [116,97,98,108,101])) rfl tr rfl<|l7 (.bool (B == [116,97,98,108,101])) rfl<|dk<|?_
 rcases oi hf with ⟨c11,hf⟩ | ⟨c11,hf⟩
 ·refine x9 rfl c11<|sr<|l7 (.ptr 0 0 0) rfl<|o7 (.ptr 3 0 2) rfl tr rfl<|o7 (.str A.T) rfl nle rfl<|o7 (.ptr 0 0 0) rfl tr rfl<|o7 (.ptr 0 0 1) rfl tr rfl<|a1k (a0i (v:=(.str A.T)) (y':=(.agg [(.str F),(.str A.T),(.own 1 0 E.length),(.bool J),(.bool K),(.bool L),(.bool M),(.own 2 0 D.length)])) rfl rfl rfl tr ⟨rfl,nle⟩ ⟨⟨rfl,tr⟩,tr⟩ rfl)<|dk<|sr<|?_
  rcases oi hf with ⟨c12,hf⟩ | ⟨c12,hf⟩
  ·refine o7 (.ptr 3 0 0) rfl tr rfl<|o7 (.I A.Kind) rfl nle rfl<|o7 (.bool (A.Kind == 3)) rfl rfl rfl<|l7 (.bool (A.Kind == 3)) rfl<|a0x (s:=20) (b:=true) rfl c12<|s_on rfl<|o7 (.ptr 3 0 2) rfl tr rfl<|s_on rfl<|o7 (.str A.T) rfl nle rfl<|s_on rfl<|o7 (.bool (!(A.T == []))) rfl tr rfl<|o7 (.bool (!(A.T == []))) rfl tr rfl<|l7 (.bool (!(A.T == []))) rfl<|dk<|a0d<|?_;obtain rfl:=os hf;exact a4p [.mv 1,.mv 2] [0,1,2,4,5] rfl ⟨tr,tr⟩ rfl .r .r
  ·refine o7 (.ptr 3 0 0) rfl tr rfl<|o7 (.I A.Kind) rfl nle rfl<|o7 (.bool (A.Kind == 3)) rfl rfl rfl<|l7 (.bool (A.Kind == 3)) rfl<|a0x (s:=20) (b:=false) rfl (bf c12)<|y5 rfl rfl<|y5 rfl rfl<|y5 rfl rfl<|o7 (.bool false) rfl tr rfl<|l7 (.bool false) rfl<|dk<|a0d<|?_;obtain rfl:=os hf;exact a4p [.mv 1,.mv 2] [0,1,2,4,5] rfl ⟨tr,tr⟩ rfl .r .r
 ·refine x8 rfl (bf c11)<|sr<|o7 (.bool (B == [99,111,108,117,109,110,115])) rfl tr rfl<|l7 (.bool (B == [99,111,108,117,109,110,115])) rfl<|dk<|?_
  rcases oi hf with ⟨c13,hf⟩ | ⟨c13,hf⟩
  ·refine x9 rfl c13<|sr<|?_
   obtain ⟨G,er15,hf⟩:=ob hf
   refine l7 (.ptr 0 0 0) rfl<|o7 (.agg [(.I A.Kind),(.I A.N),(.str A.T),(.lst 1 (A.Keys.map AV.str)),(.lst 5 (A.Items.map l9))]) rfl nle rfl<|y7 (a5i (v:=(.tup [(.own 4 0 G.1.length),(.bool G.2)])) (h':=[.row 1 (G.1.map AV.str)]) (c1u _ _ er15) rfl (.cons (.of_eq (o9 A).symm) .nil) (by simp only [a2r,a2z,List.length_map,List.nil_append,List.append_nil,List.cons_append];rfl))<|l7 (.tup [(.own 4 0 G.1.length),(.bool G.2)]) rfl<|o7 (.own 4 0 G.1.length) rfl nle rfl<|o7 (.bool G.2) rfl nle rfl<|o7 (.ptr 0 0 0) rfl tr rfl<|o7 (.ptr 0 0 2) rfl tr rfl<|a1k (a0i (v:=(.own 4 0 G.1.length)) (y':=(.agg [(.str F),(.str O),(.own 4 0 G.1.length),(.bool J),(.bool K),(.bool L),(.bool M),(.own 2 0 D.length)])) rfl rfl rfl tr ⟨rfl,nle⟩ ⟨⟨rfl,tr⟩,tr⟩ rfl)<|?_
   refine l7 (.bool G.2) rfl<|dk<|sr<|l7 (.bool G.2) rfl<|l7 (.bool G.2) rfl<|dk<|a0d<|?_;obtain rfl:=os hf;exact a4p [.mv 2,.kill 1] [0,1,2,4,5] rfl ⟨tr,tr⟩ rfl .r .r
  ·refine x8 rfl (bf c13)<|sr<|o7 (.bool (B == [119,104,101,114,101])) rfl tr rfl<|l7 (.bool (B == [119,104,101,114,101])) rfl<|dk<|?_
   rcases oi hf with ⟨c16,hf⟩ | ⟨c16,hf⟩
   ·refine x9 rfl c16<|sr<|?_
    obtain ⟨H,er18,hf⟩:=ob hf
    refine l7 (.ptr 0 0 0) rfl<|o7 (.agg [(.I A.Kind),(.I A.N),(.str A.T),(.lst 1 (A.Keys.map AV.str)),(.lst 5 (A.Items.map l9))]) rfl nle rfl<|y7 (a5i (v:=(.tup [(.own 4 0 H.1.length),(.bool H.2)])) (h':=[.row 3 (H.1.map o8)]) (c1w _ _ er18) rfl (.cons (.of_eq (o9 A).symm) .nil) (by simp only [a2r,a2z,List.length_map,List.nil_append,List.append_nil,List.cons_append];rfl))<|l7 (.tup [(.own 4 0 H.1.length),(.bool H.2)]) rfl<|o7 (.own 4 0 H.1.length) rfl nle rfl<|o7 (.bool H.2) rfl nle rfl<|o7 (.ptr 0 0 0) rfl tr rfl<|o7 (.ptr 0 0 7) rfl tr rfl<|a1k (a0i (v:=(.own 4 0 H.1.length)) (y':=(.agg [(.str F),(.str O),(.own 1 0 E.length),(.bool J),(.bool K),(.bool L),(.bool M),(.own 4 0 H.1.length)])) rfl rfl rfl tr ⟨rfl,nle⟩ ⟨⟨rfl,tr⟩,tr⟩ rfl)<|?_
    refine l7 (.bool H.2) rfl<|dk<|sr<|l7 (.bool H.2) rfl<|l7 (.bool H.2) rfl<|dk<|a0d<|?_;obtain rfl:=os hf;exact a4p [.mv 1,.kill 2] [0,1,2,5,4] rfl ⟨tr,tr⟩ rfl .r .r
   ·refine x8 rfl (bf c16)<|a0h<|a1v<|a0j<|o6<|?_
    obtain ⟨V,hV⟩:∃ V:AV,V = (b0e [([105,110,105,116,105,97,108],.ptr 0 0 3),([105,110,115,101,114,116],.ptr 0 0 4),([100,101,108,101,116,101],.ptr 0 0 5),([109,111,100,105,102,121],.ptr 0 0 6)] B).getD (.hdr (.pointer none) 0 []):=⟨_,rfl⟩
    have hle:Le (ren (a8n [0,1,2,3]) V) V:=by rw [show ren (a8n [0,1,2,3]) V = V by rw [hV];simp only [b0e];(repeat' split) <;> rfl];exact .r
    refine a2d ([(5,(.ptr 3 0 0)),(8,V)],[.box 8 (.agg [(.str F),(.str O),(.own 1 0 E.length),(.bool J),(.bool K),(.bool L),(.bool M),(.own 2 0 D.length)]),.row 1 (E.map AV.str),.row 3 (D.map o8),.box 5 (.agg [(.I A.Kind),(.I A.N),(.str A.T),(.lst 1 (A.Keys.map AV.str)),(.lst 5 (A.Items.map l9))])]) ?_ ?_
    ·refine a0t<|l7 (.ptr 0 0 0) rfl<|o7 (.ptr 0 0 0) rfl tr rfl<|o7 (.ptr 0 0 3) rfl tr rfl<|l7 (.ptr 0 0 0) rfl<|o7 (.ptr 0 0 0) rfl tr rfl<|o7 (.ptr 0 0 4) rfl tr rfl<|l7 (.ptr 0 0 0) rfl<|o7 (.ptr 0 0 0) rfl tr rfl<|o7 (.ptr 0 0 5) rfl tr rfl<|l7 (.ptr 0 0 0) rfl<|o7 (.ptr 0 0 0) rfl tr rfl<|o7 (.ptr 0 0 6) rfl tr rfl<|l7 (.str B) rfl<|a2e (e3c (j:=4) rfl) (.inr ⟨⟨tr,rfl⟩,⟨⟨tr,rfl⟩,⟨⟨tr,rfl⟩,⟨⟨tr,rfl⟩,⟨⟨tr,rfl⟩,⟨⟨tr,rfl⟩,⟨⟨tr,rfl⟩,⟨⟨tr,rfl⟩,tr⟩⟩⟩⟩⟩⟩⟩⟩) tr<|?_;refine a1j (a0s (v:=(.ptr 0 0 3)) rfl rfl rfl rfl rfl) (.inr ⟨⟨tr,rfl⟩,⟨⟨tr,rfl⟩,⟨⟨tr,rfl⟩,⟨⟨tr,rfl⟩,⟨⟨tr,rfl⟩,⟨⟨tr,rfl⟩,tr⟩⟩⟩⟩⟩⟩) ?_ ?_
     ·refine a1j (a0s (v:=(.ptr 0 0 4)) rfl rfl rfl rfl rfl) (.inr ⟨⟨tr,rfl⟩,⟨⟨tr,rfl⟩,⟨⟨tr,rfl⟩,⟨⟨tr,rfl⟩,⟨⟨tr,rfl⟩,⟨⟨tr,rfl⟩,tr⟩⟩⟩⟩⟩⟩) ?_ ?_
      ·refine a1j (a0s (v:=(.ptr 0 0 5)) rfl rfl rfl rfl rfl) (.inr ⟨⟨tr,rfl⟩,⟨⟨tr,rfl⟩,⟨⟨tr,rfl⟩,⟨⟨tr,rfl⟩,⟨⟨tr,rfl⟩,⟨⟨tr,rfl⟩,tr⟩⟩⟩⟩⟩⟩) ?_ ?_
       ·refine a1j (a0s (v:=(.ptr 0 0 6)) rfl rfl rfl rfl rfl) (.inr ⟨⟨tr,rfl⟩,⟨⟨tr,rfl⟩,⟨⟨tr,rfl⟩,⟨⟨tr,rfl⟩,⟨⟨tr,rfl⟩,⟨⟨tr,rfl⟩,tr⟩⟩⟩⟩⟩⟩) tr ?_;refine a1j (a0s (v:=(.ptr 0 0 3)) rfl rfl rfl rfl rfl) (.inr ⟨⟨tr,rfl⟩,⟨⟨tr,rfl⟩,⟨⟨tr,rfl⟩,⟨⟨tr,rfl⟩,⟨⟨tr,rfl⟩,⟨⟨tr,rfl⟩,tr⟩⟩⟩⟩⟩⟩) ?_ ?_
        ·refine a1j (a0s (v:=(.ptr 0 0 4)) rfl rfl rfl rfl rfl) (.inr ⟨⟨tr,rfl⟩,⟨⟨tr,rfl⟩,⟨⟨tr,rfl⟩,⟨⟨tr,rfl⟩,⟨⟨tr,rfl⟩,⟨⟨tr,rfl⟩,tr⟩⟩⟩⟩⟩⟩) ?_ ?_
         ·refine a1j (a0s (v:=(.ptr 0 0 5)) rfl rfl rfl rfl rfl) (.inr ⟨⟨tr,rfl⟩,⟨⟨tr,rfl⟩,⟨⟨tr,rfl⟩,⟨⟨tr,rfl⟩,⟨⟨tr,rfl⟩,⟨⟨tr,rfl⟩,tr⟩⟩⟩⟩⟩⟩) tr ?_;refine a1j (a0s (v:=(.ptr 0 0 3)) rfl rfl rfl rfl rfl) (.inr ⟨⟨tr,rfl⟩,⟨⟨tr,rfl⟩,⟨⟨tr,rfl⟩,⟨⟨tr,rfl⟩,⟨⟨tr,rfl⟩,⟨⟨tr,rfl⟩,tr⟩⟩⟩⟩⟩⟩) ?_ ?_
          ·refine a1j (a0s (v:=(.ptr 0 0 4)) rfl rfl rfl rfl rfl) (.inr ⟨⟨tr,rfl⟩,⟨⟨tr,rfl⟩,⟨⟨tr,rfl⟩,⟨⟨tr,rfl⟩,⟨⟨tr,rfl⟩,⟨⟨tr,rfl⟩,tr⟩⟩⟩⟩⟩⟩) tr<|a1j (a0s (v:=(.ptr 0 0 3)) rfl rfl rfl rfl rfl) (.inr ⟨⟨tr,rfl⟩,⟨⟨tr,rfl⟩,⟨⟨tr,rfl⟩,⟨⟨tr,rfl⟩,⟨⟨tr,rfl⟩,⟨⟨tr,rfl⟩,tr⟩⟩⟩⟩⟩⟩) tr<|l7 (.ptr 4 0 0) rfl<|a2e (a3e (v:=V) rfl rfl rfl (a9g hV (by simp [a9b]))) a2j tr<|l7 V rfl<|a0e<|?_;exact ⟨[],[0,1,2,3],_,_,rfl,rfl,⟨.r,⟨hle,tr⟩⟩,.r⟩
          ·refine a1j (a0s (v:=(.ptr 0 0 4)) rfl rfl rfl rfl rfl) (.inr ⟨⟨tr,rfl⟩,⟨⟨tr,rfl⟩,⟨⟨tr,rfl⟩,⟨⟨tr,rfl⟩,⟨⟨tr,rfl⟩,⟨⟨tr,rfl⟩,tr⟩⟩⟩⟩⟩⟩) tr<|l7 (.ptr 4 0 0) rfl<|a2e (a3e (v:=V) rfl rfl rfl (a9g hV (by simp [a9b]))) a2j tr<|l7 V rfl<|a0e<|?_;exact ⟨[],[0,1,2,3],_,_,rfl,rfl,⟨.r,⟨hle,tr⟩⟩,.r⟩
         ·refine a1j (a0s (v:=(.ptr 0 0 3)) rfl rfl rfl rfl rfl) (.inr ⟨⟨tr,rfl⟩,⟨⟨tr,rfl⟩,⟨⟨tr,rfl⟩,⟨⟨tr,rfl⟩,⟨⟨tr,rfl⟩,⟨⟨tr,rfl⟩,tr⟩⟩⟩⟩⟩⟩) ?_ ?_
          ·refine a1j (a0s (v:=(.ptr 0 0 5)) rfl rfl rfl rfl rfl) (.inr ⟨⟨tr,rfl⟩,⟨⟨tr,rfl⟩,⟨⟨tr,rfl⟩,⟨⟨tr,rfl⟩,⟨⟨tr,rfl⟩,⟨⟨tr,rfl⟩,tr⟩⟩⟩⟩⟩⟩) tr<|a1j (a0s (v:=(.ptr 0 0 3)) rfl rfl rfl rfl rfl) (.inr ⟨⟨tr,rfl⟩,⟨⟨tr,rfl⟩,⟨⟨tr,rfl⟩,⟨⟨tr,rfl⟩,⟨⟨tr,rfl⟩,⟨⟨tr,rfl⟩,tr⟩⟩⟩⟩⟩⟩) tr<|l7 (.ptr 4 0 0) rfl<|a2e (a3e (v:=V) rfl rfl rfl (a9g hV (by simp [a9b]))) a2j tr<|l7 V rfl<|a0e<|?_;exact ⟨[],[0,1,2,3],_,_,rfl,rfl,⟨.r,⟨hle,tr⟩⟩,.r⟩
          ·refine a1j (a0s (v:=(.ptr 0 0 5)) rfl rfl rfl rfl rfl) (.inr ⟨⟨tr,rfl⟩,⟨⟨tr,rfl⟩,⟨⟨tr,rfl⟩,⟨⟨tr,rfl⟩,⟨⟨tr,rfl⟩,⟨⟨tr,rfl⟩,tr⟩⟩⟩⟩⟩⟩) tr<|l7 (.ptr 4 0 0) rfl<|a2e (a3e (v:=V) rfl rfl rfl (a9g hV (by simp [a9b]))) a2j tr<|l7 V rfl<|a0e<|?_;exact ⟨[],[0,1,2,3],_,_,rfl,rfl,⟨.r,⟨hle,tr⟩⟩,.r⟩
        ·refine a1j (a0s (v:=(.ptr 0 0 4)) rfl rfl rfl rfl rfl) (.inr ⟨⟨tr,rfl⟩,⟨⟨tr,rfl⟩,⟨⟨tr,rfl⟩,⟨⟨tr,rfl⟩,⟨⟨tr,rfl⟩,⟨⟨tr,rfl⟩,tr⟩⟩⟩⟩⟩⟩) ?_ ?_
         ·refine a1j (a0s (v:=(.ptr 0 0 5)) rfl rfl rfl rfl rfl) (.inr ⟨⟨tr,rfl⟩,⟨⟨tr,rfl⟩,⟨⟨tr,rfl⟩,⟨⟨tr,rfl⟩,⟨⟨tr,rfl⟩,⟨⟨tr,rfl⟩,tr⟩⟩⟩⟩⟩⟩) tr<|a1j (a0s (v:=(.ptr 0 0 4)) rfl rfl rfl rfl rfl) (.inr ⟨⟨tr,rfl⟩,⟨⟨tr,rfl⟩,⟨⟨tr,rfl⟩,⟨⟨tr,rfl⟩,⟨⟨tr,rfl⟩,⟨⟨tr,rfl⟩,tr⟩⟩⟩⟩⟩⟩) tr<|l7 (.ptr 4 0 0) rfl<|a2e (a3e (v:=V) rfl rfl rfl (a9g hV (by simp [a9b]))) a2j tr<|l7 V rfl<|a0e<|?_;exact ⟨[],[0,1,2,3],_,_,rfl,rfl,⟨.r,⟨hle,tr⟩⟩,.r⟩
         ·refine a1j (a0s (v:=(.ptr 0 0 5)) rfl rfl rfl rfl rfl) (.inr ⟨⟨tr,rfl⟩,⟨⟨tr,rfl⟩,⟨⟨tr,rfl⟩,⟨⟨tr,rfl⟩,⟨⟨tr,rfl⟩,⟨⟨tr,rfl⟩,tr⟩⟩⟩⟩⟩⟩) tr<|l7 (.ptr 4 0 0) rfl<|a2e (a3e (v:=V) rfl rfl rfl (a9g hV (by simp [a9b]))) a2j tr<|l7 V rfl<|a0e<|?_;exact ⟨[],[0,1,2,3],_,_,rfl,rfl,⟨.r,⟨hle,tr⟩⟩,.r⟩
       ·refine a1j (a0s (v:=(.ptr 0 0 3)) rfl rfl rfl rfl rfl) (.inr ⟨⟨tr,rfl⟩,⟨⟨tr,rfl⟩,⟨⟨tr,rfl⟩,⟨⟨tr,rfl⟩,⟨⟨tr,rfl⟩,⟨⟨tr,rfl⟩,tr⟩⟩⟩⟩⟩⟩) ?_ ?_
        ·refine a1j (a0s (v:=(.ptr 0 0 4)) rfl rfl rfl rfl rfl) (.inr ⟨⟨tr,rfl⟩,⟨⟨tr,rfl⟩,⟨⟨tr,rfl⟩,⟨⟨tr,rfl⟩,⟨⟨tr,rfl⟩,⟨⟨tr,rfl⟩,tr⟩⟩⟩⟩⟩⟩) ?_ ?_
         ·refine a1j (a0s (v:=(.ptr 0 0 6)) rfl rfl rfl rfl rfl) (.inr ⟨⟨tr,rfl⟩,⟨⟨tr,rfl⟩,⟨⟨tr,rfl⟩,⟨⟨tr,rfl⟩,⟨⟨tr,rfl⟩,⟨⟨tr,rfl⟩,tr⟩⟩⟩⟩⟩⟩) tr ?_;refine a1j (a0s (v:=(.ptr 0 0 3)) rfl rfl rfl rfl rfl) (.inr ⟨⟨tr,rfl⟩,⟨⟨tr,rfl⟩,⟨⟨tr,rfl⟩,⟨⟨tr,rfl⟩,⟨⟨tr,rfl⟩,⟨⟨tr,rfl⟩,tr⟩⟩⟩⟩⟩⟩) ?_ ?_
          ·refine a1j (a0s (v:=(.ptr 0 0 4)) rfl rfl rfl rfl rfl) (.inr ⟨⟨tr,rfl⟩,⟨⟨tr,rfl⟩,⟨⟨tr,rfl⟩,⟨⟨tr,rfl⟩,⟨⟨tr,rfl⟩,⟨⟨tr,rfl⟩,tr⟩⟩⟩⟩⟩⟩) tr<|a1j (a0s (v:=(.ptr 0 0 3)) rfl rfl rfl rfl rfl) (.inr ⟨⟨tr,rfl⟩,⟨⟨tr,rfl⟩,⟨⟨tr,rfl⟩,⟨⟨tr,rfl⟩,⟨⟨tr,rfl⟩,⟨⟨tr,rfl⟩,tr⟩⟩⟩⟩⟩⟩) tr<|l7 (.ptr 4 0 0) rfl<|a2e (a3e (v:=V) rfl rfl rfl (a9g hV (by simp [a9b]))) a2j tr<|l7 V rfl<|a0e<|?_;exact ⟨[],[0,1,2,3],_,_,rfl,rfl,⟨.r,⟨hle,tr⟩⟩,.r⟩
          ·refine a1j (a0s (v:=(.ptr 0 0 4)) rfl rfl rfl rfl rfl) (.inr ⟨⟨tr,rfl⟩,⟨⟨tr,rfl⟩,⟨⟨tr,rfl⟩,⟨⟨tr,rfl⟩,⟨⟨tr,rfl⟩,⟨⟨tr,rfl⟩,tr⟩⟩⟩⟩⟩⟩) tr<|l7 (.ptr 4 0 0) rfl<|a2e (a3e (v:=V) rfl rfl rfl (a9g hV (by simp [a9b]))) a2j tr<|l7 V rfl<|a0e<|?_;exact ⟨[],[0,1,2,3],_,_,rfl,rfl,⟨.r,⟨hle,tr⟩⟩,.r⟩
         ·refine a1j (a0s (v:=(.ptr 0 0 3)) rfl rfl rfl rfl rfl) (.inr ⟨⟨tr,rfl⟩,⟨⟨tr,rfl⟩,⟨⟨tr,rfl⟩,⟨⟨tr,rfl⟩,⟨⟨tr,rfl⟩,⟨⟨tr,rfl⟩,tr⟩⟩⟩⟩⟩⟩) ?_ ?_
          ·refine a1j (a0s (v:=(.ptr 0 0 6)) rfl rfl rfl rfl rfl) (.inr ⟨⟨tr,rfl⟩,⟨⟨tr,rfl⟩,⟨⟨tr,rfl⟩,⟨⟨tr,rfl⟩,⟨⟨tr,rfl⟩,⟨⟨tr,rfl⟩,tr⟩⟩⟩⟩⟩⟩) tr<|a1j (a0s (v:=(.ptr 0 0 3)) rfl rfl rfl rfl rfl) (.inr ⟨⟨tr,rfl⟩,⟨⟨tr,rfl⟩,⟨⟨tr,rfl⟩,⟨⟨tr,rfl⟩,⟨⟨tr,rfl⟩,⟨⟨tr,rfl⟩,tr⟩⟩⟩⟩⟩⟩) tr<|l7 (.ptr 4 0 0) rfl<|a2e (a3e (v:=V) rfl rfl rfl (a9g hV (by simp [a9b]))) a2j tr<|l7 V rfl<|a0e<|?_;exact ⟨[],[0,1,2,3],_,_,rfl,rfl,⟨.r,⟨hle,tr⟩⟩,.r⟩
          ·refine a1j (a0s (v:=(.ptr 0 0 6)) rfl rfl rfl rfl rfl) (.inr ⟨⟨tr,rfl⟩,⟨⟨tr,rfl⟩,⟨⟨tr,rfl⟩,⟨⟨tr,rfl⟩,⟨⟨tr,rfl⟩,⟨⟨tr,rfl⟩,tr⟩⟩⟩⟩⟩⟩) tr<|l7 (.ptr 4 0 0) rfl<|a2e (a3e (v:=V) rfl rfl rfl (a9g hV (by simp [a9b]))) a2j tr<|l7 V rfl<|a0e<|?_;exact ⟨[],[0,1,2,3],_,_,rfl,rfl,⟨.r,⟨hle,tr⟩⟩,.r⟩
        ·refine a1j (a0s (v:=(.ptr 0 0 4)) rfl rfl rfl rfl rfl) (.inr ⟨⟨tr,rfl⟩,⟨⟨tr,rfl⟩,⟨⟨tr,rfl⟩,⟨⟨tr,rfl⟩,⟨⟨tr,rfl⟩,⟨⟨tr,rfl⟩,tr⟩⟩⟩⟩⟩⟩) ?_ ?_
         ·refine a1j (a0s (v:=(.ptr 0 0 6)) rfl rfl rfl rfl rfl) (.inr ⟨⟨tr,rfl⟩,⟨⟨tr,rfl⟩,⟨⟨tr,rfl⟩,⟨⟨tr,rfl⟩,⟨⟨tr,rfl⟩,⟨⟨tr,rfl⟩,tr⟩⟩⟩⟩⟩⟩) tr<|a1j (a0s (v:=(.ptr 0 0 4)) rfl rfl rfl rfl rfl) (.inr ⟨⟨tr,rfl⟩,⟨⟨tr,rfl⟩,⟨⟨tr,rfl⟩,⟨⟨tr,rfl⟩,⟨⟨tr,rfl⟩,⟨⟨tr,rfl⟩,tr⟩⟩⟩⟩⟩⟩) tr<|l7 (.ptr 4 0 0) rfl<|a2e (a3e (v:=V) rfl rfl rfl (a9g hV (by simp [a9b]))) a2j tr<|l7 V rfl<|a0e<|?_;exact ⟨[],[0,1,2,3],_,_,rfl,rfl,⟨.r,⟨hle,tr⟩⟩,.r⟩
         ·refine a1j (a0s (v:=(.ptr 0 0 6)) rfl rfl rfl rfl rfl) (.inr ⟨⟨tr,rfl⟩,⟨⟨tr,rfl⟩,⟨⟨tr,rfl⟩,⟨⟨tr,rfl⟩,⟨⟨tr,rfl⟩,⟨⟨tr,rfl⟩,tr⟩⟩⟩⟩⟩⟩) tr<|l7 (.ptr 4 0 0) rfl<|a2e (a3e (v:=V) rfl rfl rfl (a9g hV (by simp [a9b]))) a2j tr<|l7 V rfl<|a0e<|?_;exact ⟨[],[0,1,2,3],_,_,rfl,rfl,⟨.r,⟨hle,tr⟩⟩,.r⟩
      ·refine a1j (a0s (v:=(.ptr 0 0 3)) rfl rfl rfl rfl rfl) (.inr ⟨⟨tr,rfl⟩,⟨⟨tr,rfl⟩,⟨⟨tr,rfl⟩,⟨⟨tr,rfl⟩,⟨⟨tr,rfl⟩,⟨⟨tr,rfl⟩,tr⟩⟩⟩⟩⟩⟩) ?_ ?_
       ·refine a1j (a0s (v:=(.ptr 0 0 5)) rfl rfl rfl rfl rfl) (.inr ⟨⟨tr,rfl⟩,⟨⟨tr,rfl⟩,⟨⟨tr,rfl⟩,⟨⟨tr,rfl⟩,⟨⟨tr,rfl⟩,⟨⟨tr,rfl⟩,tr⟩⟩⟩⟩⟩⟩) ?_ ?_
        ·refine a1j (a0s (v:=(.ptr 0 0 6)) rfl rfl rfl rfl rfl) (.inr ⟨⟨tr,rfl⟩,⟨⟨tr,rfl⟩,⟨⟨tr,rfl⟩,⟨⟨tr,rfl⟩,⟨⟨tr,rfl⟩,⟨⟨tr,rfl⟩,tr⟩⟩⟩⟩⟩⟩) tr ?_;refine a1j (a0s (v:=(.ptr 0 0 3)) rfl rfl rfl rfl rfl) (.inr ⟨⟨tr,rfl⟩,⟨⟨tr,rfl⟩,⟨⟨tr,rfl⟩,⟨⟨tr,rfl⟩,⟨⟨tr,rfl⟩,⟨⟨tr,rfl⟩,tr⟩⟩⟩⟩⟩⟩) ?_ ?_
         ·refine a1j (a0s (v:=(.ptr 0 0 5)) rfl rfl rfl rfl rfl) (.inr ⟨⟨tr,rfl⟩,⟨⟨tr,rfl⟩,⟨⟨tr,rfl⟩,⟨⟨tr,rfl⟩,⟨⟨tr,rfl⟩,⟨⟨tr,rfl⟩,tr⟩⟩⟩⟩⟩⟩) tr<|a1j (a0s (v:=(.ptr 0 0 3)) rfl rfl rfl rfl rfl) (.inr ⟨⟨tr,rfl⟩,⟨⟨tr,rfl⟩,⟨⟨tr,rfl⟩,⟨⟨tr,rfl⟩,⟨⟨tr,rfl⟩,⟨⟨tr,rfl⟩,tr⟩⟩⟩⟩⟩⟩) tr<|l7 (.ptr 4 0 0) rfl<|a2e (a3e (v:=V) rfl rfl rfl (a9g hV (by simp [a9b]))) a2j tr<|l7 V rfl<|a0e<|?_;exact ⟨[],[0,1,2,3],_,_,rfl,rfl,⟨.r,⟨hle,tr⟩⟩,.r⟩
         ·refine a1j (a0s (v:=(.ptr 0 0 5)) rfl rfl rfl rfl rfl) (.inr ⟨⟨tr,rfl⟩,⟨⟨tr,rfl⟩,⟨⟨tr,rfl⟩,⟨⟨tr,rfl⟩,⟨⟨tr,rfl⟩,⟨⟨tr,rfl⟩,tr⟩⟩⟩⟩⟩⟩) tr<|l7 (.ptr 4 0 0) rfl<|a2e (a3e (v:=V) rfl rfl rfl (a9g hV (by simp [a9b]))) a2j tr<|l7 V rfl<|a0e<|?_;exact ⟨[],[0,1,2,3],_,_,rfl,rfl,⟨.r,⟨hle,tr⟩⟩,.r⟩
        ·refine a1j (a0s (v:=(.ptr 0 0 3)) rfl rfl rfl rfl rfl) (.inr ⟨⟨tr,rfl⟩,⟨⟨tr,rfl⟩,⟨⟨tr,rfl⟩,⟨⟨tr,rfl⟩,⟨⟨tr,rfl⟩,⟨⟨tr,rfl⟩,tr⟩⟩⟩⟩⟩⟩) ?_ ?_
         ·refine a1j (a0s (v:=(.ptr 0 0 6)) rfl rfl rfl rfl rfl) (.inr ⟨⟨tr,rfl⟩,⟨⟨tr,rfl⟩,⟨⟨tr,rfl⟩,⟨⟨tr,rfl⟩,⟨⟨tr,rfl⟩,⟨⟨tr,rfl⟩,tr⟩⟩⟩⟩⟩⟩) tr<|a1j (a0s (v:=(.ptr 0 0 3)) rfl rfl rfl rfl rfl) (.inr ⟨⟨tr,rfl⟩,⟨⟨tr,rfl⟩,⟨⟨tr,rfl⟩,⟨⟨tr,rfl⟩,⟨⟨tr,rfl⟩,⟨⟨tr,rfl⟩,tr⟩⟩⟩⟩⟩⟩) tr<|l7 (.ptr 4 0 0) rfl<|a2e (a3e (v:=V) rfl rfl rfl (a9g hV (by simp [a9b]))) a2j tr<|l7 V rfl<|a0e<|?_;exact ⟨[],[0,1,2,3],_,_,rfl,rfl,⟨.r,⟨hle,tr⟩⟩,.r⟩
         ·refine a1j (a0s (v:=(.ptr 0 0 6)) rfl rfl rfl rfl rfl) (.inr ⟨⟨tr,rfl⟩,⟨⟨tr,rfl⟩,⟨⟨tr,rfl⟩,⟨⟨tr,rfl⟩,⟨⟨tr,rfl⟩,⟨⟨tr,rfl⟩,tr⟩⟩⟩⟩⟩⟩) tr<|l7 (.ptr 4 0 0) rfl<|a2e (a3e (v:=V) rfl rfl rfl (a9g hV (by simp [a9b]))) a2j tr<|l7 V rfl<|a0e<|?_;exact ⟨[],[0,1,2,3],_,_,rfl,rfl,⟨.r,⟨hle,tr⟩⟩,.r⟩
       ·refine a1j (a0s (v:=(.ptr 0 0 5)) rfl rfl rfl rfl rfl) (.inr ⟨⟨tr,rfl⟩,⟨⟨tr,rfl⟩,⟨⟨tr,rfl⟩,⟨⟨tr,rfl⟩,⟨⟨tr,rfl⟩,⟨⟨tr,rfl⟩,tr⟩⟩⟩⟩⟩⟩) ?_ ?_
        ·refine a1j (a0s (v:=(.ptr 0 0 6)) rfl rfl rfl rfl rfl) (.inr ⟨⟨tr,rfl⟩,⟨⟨tr,rfl⟩,⟨⟨tr,rfl⟩,⟨⟨tr,rfl⟩,⟨⟨tr,rfl⟩,⟨⟨tr,rfl⟩,tr⟩⟩⟩⟩⟩⟩) tr<|a1j (a0s (v:=(.ptr 0 0 5)) rfl rfl rfl rfl rfl) (.inr ⟨⟨tr,rfl⟩,⟨⟨tr,rfl⟩,⟨⟨tr,rfl⟩,⟨⟨tr,rfl⟩,⟨⟨tr,rfl⟩,⟨⟨tr,rfl⟩,tr⟩⟩⟩⟩⟩⟩) tr<|l7 (.ptr 4 0 0) rfl<|a2e (a3e (v:=V) rfl rfl rfl (a9g hV (by simp [a9b]))) a2j tr<|l7 V rfl<|a0e<|?_;exact ⟨[],[0,1,2,3],_,_,rfl,rfl,⟨.r,⟨hle,tr⟩⟩,.r⟩
        ·refine a1j (a0s (v:=(.ptr 0 0 6)) rfl rfl rfl rfl rfl) (.inr ⟨⟨tr,rfl⟩,⟨⟨tr,rfl⟩,⟨⟨tr,rfl⟩,⟨⟨tr,rfl⟩,⟨⟨tr,rfl⟩,⟨⟨tr,rfl⟩,tr⟩⟩⟩⟩⟩⟩) tr<|l7 (.ptr 4 0 0) rfl<|a2e (a3e (v:=V) rfl rfl rfl (a9g hV (by simp [a9b]))) a2j tr<|l7 V rfl<|a0e<|?_;exact ⟨[],[0,1,2,3],_,_,rfl,rfl,⟨.r,⟨hle,tr⟩⟩,.r⟩
     ·refine a1j (a0s (v:=(.ptr 0 0 4)) rfl rfl rfl rfl rfl) (.inr ⟨⟨tr,rfl⟩,⟨⟨tr,rfl⟩,⟨⟨tr,rfl⟩,⟨⟨tr,rfl⟩,⟨⟨tr,rfl⟩,⟨⟨tr,rfl⟩,tr⟩⟩⟩⟩⟩⟩) ?_ ?_
      ·refine a1j (a0s (v:=(.ptr 0 0 5)) rfl rfl rfl rfl rfl) (.inr ⟨⟨tr,rfl⟩,⟨⟨tr,rfl⟩,⟨⟨tr,rfl⟩,⟨⟨tr,rfl⟩,⟨⟨tr,rfl⟩,⟨⟨tr,rfl⟩,tr⟩⟩⟩⟩⟩⟩) ?_ ?_
       ·refine a1j (a0s (v:=(.ptr 0 0 6)) rfl rfl rfl rfl rfl) (.inr ⟨⟨tr,rfl⟩,⟨⟨tr,rfl⟩,⟨⟨tr,rfl⟩,⟨⟨tr,rfl⟩,⟨⟨tr,rfl⟩,⟨⟨tr,rfl⟩,tr⟩⟩⟩⟩⟩⟩) tr ?_;refine a1j (a0s (v:=(.ptr 0 0 4)) rfl rfl rfl rfl rfl) (.inr ⟨⟨tr,rfl⟩,⟨⟨tr,rfl⟩,⟨⟨tr,rfl⟩,⟨⟨tr,rfl⟩,⟨⟨tr,rfl⟩,⟨⟨tr,rfl⟩,tr⟩⟩⟩⟩⟩⟩) ?_ ?_
        ·refine a1j (a0s (v:=(.ptr 0 0 5)) rfl rfl rfl rfl rfl) (.inr ⟨⟨tr,rfl⟩,⟨⟨tr,rfl⟩,⟨⟨tr,rfl⟩,⟨⟨tr,rfl⟩,⟨⟨tr,rfl⟩,⟨⟨tr,rfl⟩,tr⟩⟩⟩⟩⟩⟩) tr<|a1j (a0s (v:=(.ptr 0 0 4)) rfl rfl rfl rfl rfl) (.inr ⟨⟨tr,rfl⟩,⟨⟨tr,rfl⟩,⟨⟨tr,rfl⟩,⟨⟨tr,rfl⟩,⟨⟨tr,rfl⟩,⟨⟨tr,rfl⟩,tr⟩⟩⟩⟩⟩⟩) tr<|l7 (.ptr 4 0 0) rfl<|a2e (a3e (v:=V) rfl rfl rfl (a9g hV (by simp [a9b]))) a2j tr<|l7 V rfl<|a0e<|?_;exact ⟨[],[0,1,2,3],_,_,rfl,rfl,⟨.r,⟨hle,tr⟩⟩,.r⟩
        ·refine a1j (a0s (v:=(.ptr 0 0 5)) rfl rfl rfl rfl rfl) (.inr ⟨⟨tr,rfl⟩,⟨⟨tr,rfl⟩,⟨⟨tr,rfl⟩,⟨⟨tr,rfl⟩,⟨⟨tr,rfl⟩,⟨⟨tr,rfl⟩,tr⟩⟩⟩⟩⟩⟩) tr<|l7 (.ptr 4 0 0) rfl<|a2e (a3e (v:=V) rfl rfl rfl (a9g hV (by simp [a9b]))) a2j tr<|l7 V rfl<|a0e<|?_;exact ⟨[],[0,1,2,3],_,_,rfl,rfl,⟨.r,⟨hle,tr⟩⟩,.r⟩
       ·refine a1j (a0s (v:=(.ptr 0 0 4)) rfl rfl rfl rfl rfl) (.inr ⟨⟨tr,rfl⟩,⟨⟨tr,rfl⟩,⟨⟨tr,rfl⟩,⟨⟨tr,rfl⟩,⟨⟨tr,rfl⟩,⟨⟨tr,rfl⟩,tr⟩⟩⟩⟩⟩⟩) ?_ ?_
        ·refine a1j (a0s (v:=(.ptr 0 0 6)) rfl rfl rfl rfl rfl) (.inr ⟨⟨tr,rfl⟩,⟨⟨tr,rfl⟩,⟨⟨tr,rfl⟩,⟨⟨tr,rfl⟩,⟨⟨tr,rfl⟩,⟨⟨tr,rfl⟩,tr⟩⟩⟩⟩⟩⟩) tr<|a1j (a0s (v:=(.ptr 0 0 4)) rfl rfl rfl rfl rfl) (.inr ⟨⟨tr,rfl⟩,⟨⟨tr,rfl⟩,⟨⟨tr,rfl⟩,⟨⟨tr,rfl⟩,⟨⟨tr,rfl⟩,⟨⟨tr,rfl⟩,tr⟩⟩⟩⟩⟩⟩) tr<|l7 (.ptr 4 0 0) rfl<|a2e (a3e (v:=V) rfl rfl rfl (a9g hV (by simp [a9b]))) a2j tr<|l7 V rfl<|a0e<|?_;exact ⟨[],[0,1,2,3],_,_,rfl,rfl,⟨.r,⟨hle,tr⟩⟩,.r⟩
        ·refine a1j (a0s (v:=(.ptr 0 0 6)) rfl rfl rfl rfl rfl) (.inr ⟨⟨tr,rfl⟩,⟨⟨tr,rfl⟩,⟨⟨tr,rfl⟩,⟨⟨tr,rfl⟩,⟨⟨tr,rfl⟩,⟨⟨tr,rfl⟩,tr⟩⟩⟩⟩⟩⟩) tr<|l7 (.ptr 4 0 0) rfl<|a2e (a3e (v:=V) rfl rfl rfl (a9g hV (by simp [a9b]))) a2j tr<|l7 V rfl<|a0e<|?_;exact ⟨[],[0,1,2,3],_,_,rfl,rfl,⟨.r,⟨hle,tr⟩⟩,.r⟩
      ·refine a1j (a0s (v:=(.ptr 0 0 5)) rfl rfl rfl rfl rfl) (.inr ⟨⟨tr,rfl⟩,⟨⟨tr,rfl⟩,⟨⟨tr,rfl⟩,⟨⟨tr,rfl⟩,⟨⟨tr,rfl⟩,⟨⟨tr,rfl⟩,tr⟩⟩⟩⟩⟩⟩) ?_ ?_
       ·refine a1j (a0s (v:=(.ptr 0 0 6)) rfl rfl rfl rfl rfl) (.inr ⟨⟨tr,rfl⟩,⟨⟨tr,rfl⟩,⟨⟨tr,rfl⟩,⟨⟨tr,rfl⟩,⟨⟨tr,rfl⟩,⟨⟨tr,rfl⟩,tr⟩⟩⟩⟩⟩⟩) tr<|a1j (a0s (v:=(.ptr 0 0 5)) rfl rfl rfl rfl rfl) (.inr ⟨⟨tr,rfl⟩,⟨⟨tr,rfl⟩,⟨⟨tr,rfl⟩,⟨⟨tr,rfl⟩,⟨⟨tr,rfl⟩,⟨⟨tr,rfl⟩,tr⟩⟩⟩⟩⟩⟩) tr<|l7 (.ptr 4 0 0) rfl<|a2e (a3e (v:=V) rfl rfl rfl (a9g hV (by simp [a9b]))) a2j tr<|l7 V rfl<|a0e<|?_;exact ⟨[],[0,1,2,3],_,_,rfl,rfl,⟨.r,⟨hle,tr⟩⟩,.r⟩
       ·refine a1j (a0s (v:=(.ptr 0 0 6)) rfl rfl rfl rfl rfl) (.inr ⟨⟨tr,rfl⟩,⟨⟨tr,rfl⟩,⟨⟨tr,rfl⟩,⟨⟨tr,rfl⟩,⟨⟨tr,rfl⟩,⟨⟨tr,rfl⟩,tr⟩⟩⟩⟩⟩⟩) tr<|l7 (.ptr 4 0 0) rfl<|a2e (a3e (v:=V) rfl rfl rfl (a9g hV (by simp [a9b]))) a2j tr<|l7 V rfl<|a0e<|?_;exact ⟨[],[0,1,2,3],_,_,rfl,rfl,⟨.r,⟨hle,tr⟩⟩,.r⟩
    rcases oi hf with ⟨c19,hf⟩ | ⟨c19,hf⟩
    ·obtain ⟨p20,hb1,hf⟩:=ob hf
     obtain rfl:V = .ptr 0 0 3:=by rw [hV,eq_of_beq c19];rfl
     refine o6<|sr<|l7 (.ptr 0 0 3) rfl<|y7 (b8q rfl rfl)<|dk<|x8 rfl rfl<|a0h<|a0j<|sr<|l7 (.ptr 0 0 3) rfl<|o7 (.ptr 3 0 1) rfl tr rfl<|o7 (.I A.N) rfl nle rfl<|o7 (.bool (A.N == 1)) rfl rfl rfl<|o7 (.ptr 0 0 3) rfl tr rfl<|a1k (a0i (v:=(.bool (A.N == 1))) (y':=(.agg [(.str F),(.str O),(.own 1 0 E.length),(.bool (A.N == 1)),(.bool K),(.bool L),(.bool M),(.own 2 0 D.length)])) rfl rfl rfl tr ⟨rfl,nle⟩ ⟨⟨rfl,tr⟩,tr⟩ rfl)<|dk<|sr<|o7 (.ptr 3 0 0) rfl tr rfl<|o7 (.I A.Kind) rfl nle rfl<|?_
     refine o7 (.bool (A.Kind == 1)) rfl rfl rfl<|l7 (.bool (A.Kind == 1)) rfl<|dk<|a0d<|?_;obtain rfl:=os hf;exact a4p [.mv 1,.mv 2] [0,1,2,4,5] rfl ⟨tr,tr⟩ rfl .r .r
    ·rcases oi hf with ⟨c21,hf⟩ | ⟨c21,hf⟩
     ·obtain ⟨p22,hb1,hf⟩:=ob hf
      obtain rfl:V = .ptr 0 0 4:=by rw [hV,eq_of_beq c21];rfl
      refine o6<|sr<|l7 (.ptr 0 0 4) rfl<|y7 (b8q rfl rfl)<|dk<|x8 rfl rfl<|a0h<|a0j<|sr<|l7 (.ptr 0 0 4) rfl<|o7 (.ptr 3 0 1) rfl tr rfl<|o7 (.I A.N) rfl nle rfl<|o7 (.bool (A.N == 1)) rfl rfl rfl<|o7 (.ptr 0 0 4) rfl tr rfl<|a1k (a0i (v:=(.bool (A.N == 1))) (y':=(.agg [(.str F),(.str O),(.own 1 0 E.length),(.bool J),(.bool (A.N == 1)),(.bool L),(.bool M),(.own 2 0 D.length)])) rfl rfl rfl tr ⟨rfl,nle⟩ ⟨⟨rfl,tr⟩,tr⟩ rfl)<|dk<|sr<|o7 (.ptr 3 0 0) rfl tr rfl<|o7 (.I A.Kind) rfl nle rfl<|?_
      refine o7 (.bool (A.Kind == 1)) rfl rfl rfl<|l7 (.bool (A.Kind == 1)) rfl<|dk<|a0d<|?_;obtain rfl:=os hf;exact a4p [.mv 1,.mv 2] [0,1,2,4,5] rfl ⟨tr,tr⟩ rfl .r .r
     ·rcases oi hf with ⟨c23,hf⟩ | ⟨c23,hf⟩
      ·obtain ⟨p24,hb1,hf⟩:=ob hf
       obtain rfl:V = .ptr 0 0 5:=by rw [hV,eq_of_beq c23];rfl
       refine o6<|sr<|l7 (.ptr 0 0 5) rfl<|y7 (b8q rfl rfl)<|dk<|x8 rfl rfl<|a0h<|a0j<|sr<|l7 (.ptr 0 0 5) rfl<|o7 (.ptr 3 0 1) rfl tr rfl<|o7 (.I A.N) rfl nle rfl<|o7 (.bool (A.N == 1)) rfl rfl rfl<|o7 (.ptr 0 0 5) rfl tr rfl<|a1k (a0i (v:=(.bool (A.N == 1))) (y':=(.agg [(.str F),(.str O),(.own 1 0 E.length),(.bool J),(.bool K),(.bool (A.N == 1)),(.bool M),(.own 2 0 D.length)])) rfl rfl rfl tr ⟨rfl,nle⟩ ⟨⟨rfl,tr⟩,tr⟩ rfl)<|dk<|sr<|o7 (.ptr 3 0 0) rfl tr rfl<|o7 (.I A.Kind) rfl nle rfl<|?_
       refine o7 (.bool (A.Kind == 1)) rfl rfl rfl<|l7 (.bool (A.Kind == 1)) rfl<|dk<|a0d<|?_;obtain rfl:=os hf;exact a4p [.mv 1,.mv 2] [0,1,2,4,5] rfl ⟨tr,tr⟩ rfl .r .r
      ·rcases oi hf with ⟨c25,hf⟩ | ⟨c25,hf⟩
       ·obtain ⟨p26,hb1,hf⟩:=ob hf
        obtain rfl:V = .ptr 0 0 6:=by rw [hV,eq_of_beq c25];rfl
        refine o6<|sr<|l7 (.ptr 0 0 6) rfl<|y7 (b8q rfl rfl)<|dk<|x8 rfl rfl<|a0h<|a0j<|sr<|l7 (.ptr 0 0 6) rfl<|o7 (.ptr 3 0 1) rfl tr rfl<|o7 (.I A.N) rfl nle rfl<|o7 (.bool (A.N == 1)) rfl rfl rfl<|o7 (.ptr 0 0 6) rfl tr rfl<|a1k (a0i (v:=(.bool (A.N == 1))) (y':=(.agg [(.str F),(.str O),(.own 1 0 E.length),(.bool J),(.bool K),(.bool L),(.bool (A.N == 1)),(.own 2 0 D.length)])) rfl rfl rfl tr ⟨rfl,nle⟩ ⟨⟨rfl,tr⟩,tr⟩ rfl)<|dk<|sr<|o7 (.ptr 3 0 0) rfl tr rfl<|o7 (.I A.Kind) rfl nle rfl<|?_
        refine o7 (.bool (A.Kind == 1)) rfl rfl rfl<|l7 (.bool (A.Kind == 1)) rfl<|dk<|a0d<|?_;obtain rfl:=os hf;exact a4p [.mv 1,.mv 2] [0,1,2,4,5] rfl ⟨tr,tr⟩ rfl .r .r
       ·obtain ⟨p27,hb1,hf⟩:=ob hf
        obtain rfl:V = .hdr (.pointer none) 0 []:=hV.trans (congrArg (fun q => Option.getD q _) ((c1l (bf c19)).trans ((c1l (bf c21)).trans ((c1l (bf c23)).trans ((c1l (bf c25)))))))
        refine o6<|sr<|l7 (.hdr (.pointer none) 0 []) rfl<|y7 (d8s rfl)<|dk<|x9 rfl rfl<|sr<|l7 (.bool false) rfl<|dk<|a0d<|?_;obtain rfl:=os hf;exact a4p [.mv 1,.mv 2] [0,1,2,4,5] rfl ⟨tr,tr⟩ rfl .r .r
def e9e:a0q :=
 (.seq (.reg (tm 2 (.c (.bool false)) .done))
 (.seq (.reg (tm 3 (.t 0) (tq 4 (.bin .geq (.t 3) (.c (.int .u8 48))) (tm 5 (.t 4) (tg 6 5 true (.mov (.t 0)) (tg 7 5 true (.bin .leq (.t 6) (.c (.int .u8 57))) (tq 8 (.pick (.t 5) (.t 7) (.c (.bool false))) (tm 2 (.t 8) .done))))))))
 .ret))
theorem e9f:a1b Tryz.prog Tryz.f278 = some (e9e.erase,[.mov (.t 2)],9):=by kernel_rfl
def b1q (A:Int):Option Bool :=
    if (decide (A ≥ 48)) then
    some (decide (A ≤ 57))
    else
    some false
theorem c7i (A:Int) (r:Bool) (hf:b1q A = some r):a0a Tryz.prog 278 .flat [(.int .u8 A)] (.bool r):=by
 refine a0a.of_awp mixed Tryz.func278 e9f nle ?_;rw [a0l];unfold b1q at hf;unfold e9e;refine (show awp Tryz.prog false 0 _ (ofL [(0,(.int .u8 A))]) [] _ from ?_);refine sr<|l7 (.bool false) rfl<|dk<|sr<|?_
 rcases oi hf with ⟨c2,hf⟩ | ⟨c2,hf⟩
 ·refine l7 (.int .u8 A) rfl<|o7 (.bool (decide (A ≥ 48))) rfl rfl rfl<|l7 (.bool (decide (A ≥ 48))) rfl<|a0x (s:=5) (b:=true) rfl c2<|s_on rfl<|l7 (.int .u8 A) rfl<|s_on rfl<|o7 (.bool (decide (A ≤ 57))) rfl rfl rfl<|o7 (.bool (decide (A ≤ 57))) rfl tr rfl<|l7 (.bool (decide (A ≤ 57))) rfl<|dk<|a0d<|?_;obtain rfl:=os hf;exact a0f ⟨tr,tr⟩ rfl .r
 ·refine l7 (.int .u8 A) rfl<|o7 (.bool (decide (A ≥ 48))) rfl rfl rfl<|l7 (.bool (decide (A ≥ 48))) rfl<|a0x (s:=5) (b:=false) rfl (bf c2)<|y5 rfl rfl<|y5 rfl rfl<|o7 (.bool false) rfl tr rfl<|l7 (.bool false) rfl<|dk<|a0d<|?_;obtain rfl:=os hf;exact a0f ⟨tr,tr⟩ rfl .r
def e9g:a0q :=
 (.seq (.reg (tm 2 (.c (.bool false)) .done))
 (.seq (.seq (.reg (tm 6 (.t 0) (tq 7 (.lenS (.t 6)) (tm 8 (.c (.int .i64 0)) .done))))
 (.block 0 (.loop (.seq (.reg (tq 9 (.bin .lss (.t 8) (.t 7)) .done))
 (.seq (.cond (.t 9) .skip
 (.exit 0))
 (.seq (.block 1 (.seq (.reg (tm 10 (.t 8) (tm 3 (.t 10) .done)))
 (.seq (.reg (tm 11 (.t 0) (tm 12 (.t 3) (tq 13 (.idxs (.t 11) (.t 12)) (tm 4 (.t 13) .done)))))
 (.seq (.reg (tm 14 (.t 4) (tq 15 (.bin .geq (.t 14) (.c (.int .u8 97))) (tm 16 (.t 15) (tg 17 16 true (.mov (.t 4)) (tg 18 16 true (.bin .leq (.t 17) (.c (.int .u8 122))) (tq 19 (.pick (.t 16) (.t 18) (.c (.bool false))) (tm 20 (.t 19) (tg 21 20 false (.mov (.t 4)) (tg 22 20 false (.bin .geq (.t 21) (.c (.int .u8 65))) (tg 23 20 false (.mov (.t 22)) (tg 24 23 true (.mov (.t 4)) (tg 25 23 true (.bin .leq (.t 24) (.c (.int .u8 90))) (tg 26 20 false (.pick (.t 23) (.t 25) (.c (.bool false))) (tq 27 (.pick (.t 20) (.c (.bool true)) (.t 26)) (tm 28 (.t 27) (tg 29 28 false (.mov (.t 4)) (tg 30 28 false (.bin .eql (.t 29) (.c (.int .u8 95))) (tq 31 (.pick (.t 28) (.c (.bool true)) (.t 30)) (tm 5 (.t 31) .done))))))))))))))))))))
 (.cut (.seq (.reg (tm 32 (.t 5) (tq 33 (.not (.t 32)) (tm 34 (.t 33) (tg 35 34 true (.mov (.t 3)) (tg 36 34 true (.bin .eql (.t 35) (.c (.int .i64 0))) (tg 37 34 true (.mov (.t 36)) (tg 38 37 false (.mov (.t 4)) (tg 39 37 false (.call 278 [(.t 38)]) (tg 40 37 false (.not (.t 39)) (tg 41 34 true (.pick (.t 37) (.c (.bool true)) (.t 40)) (tq 42 (.pick (.t 34) (.t 41) (.c (.bool false))) .done))))))))))))
 (.cut (.cond (.t 42) (.seq (.reg (tm 2 (.c (.bool false)) .done))
 .ret)
 .skip))))))))
 (.reg (tq 43 (.bin .add (.t 8) (.c (.int .i64 1))) (tm 8 (.t 43) .done)))))))))
 (.cut (.seq (.reg (tm 44 (.t 0) (tq 45 (.lenS (.t 44)) (tq 46 (.call 81 [(.t 45),(.c (.int .i64 1)),(.c (.int .i64 40))]) (tm 2 (.t 46) .done)))))
 .ret))))
theorem e9h:a1b Tryz.prog Tryz.f186 = some (e9g.erase,[.mov (.t 2)],47):=by kernel_rfl
def a5m :List UInt8 → Nat → Option (Fl Bool Unit)
  | [],B =>
    some (.go ())
  | A :: xs,B =>
    ((some ():Option Unit)).bind fun _ =>
    ((if (!(bif (bif (bif (decide ((A.toNat:Int) ≥ 97)) then (decide ((A.toNat:Int) ≤ 122)) else false) then true else (bif (decide ((A.toNat:Int) ≥ 65)) then (decide ((A.toNat:Int) ≤ 90)) else false)) then true else ((A.toNat:Int) == 95))) then
    if ((B:Int) == 0) then
    some true
    else
    (b1q (A.toNat:Int)).bind fun E =>
    some (!E)
    else
    some false:Option Bool)).bind fun F =>
    if F then
    some (.ret false)
    else
    a5m xs (B + 1)
def b2y (D:Str):Option Bool :=
    (a5m D 0).bind fun q => (match q with
    | .ret r => some r
    | .go _ =>
    (a6v (D.length:Int) 1 40).bind fun G =>
    some G)
theorem c8u (D:Str) (r:Bool) (hf:b2y D = some r):a0a Tryz.prog 186 .flat [(.str D)] (.bool r):=by
 refine a0a.of_awp mixed Tryz.func186 e9h nle ?_;rw [a0l];unfold b2y at hf;unfold e9g;refine (show awp Tryz.prog false 0 _ (ofL [(0,(.str D))]) [] _ from ?_);refine sr<|l7 (.bool false) rfl<|dk<|o6<|sr<|l7 (.str D) rfl<|a1a (a9m rfl) fun hl2 => l7 (.I 0) rfl<|dk<|?_
 obtain ⟨p44,hb1,hf⟩:=ob hf
 refine a1u (X:={q:Unit // p44 = .go q}) (fun q => ([(0,(.str D))],[])) ?_ ?_
 ·refine a1h (X:={q:Nat // a5m (D.drop q) q = some p44}) (fun q => ([(0,(.str D)),(7,(.I (D.length:Int))),(8,(.I (q.1:Int)))],[])) (fun q => D.length - q.1) ⟨0,hb1⟩ ⟨[],[],_,_,rfl,rfl,⟨.r,⟨.r,⟨.r,tr⟩⟩⟩,.r⟩ ?_
  rintro ⟨B,hc1⟩
  have hc1:a5m (D.drop B) B = some p44:=hc1
  refine (show awp Tryz.prog false 0 _ (ofL [(0,(.str D)),(7,(.I (D.length:Int))),(8,(.I (B:Int)))]) [] _ from ?_)
  rcases a5j D B with ⟨hie47,hd50⟩ | ⟨hlt45,A,hx46,hd50⟩
  ·rw [hd50,a5m.eq_1] at hc1
   have hq49:=dlf hie47
   refine sr<|o7 (.bool (decide ((B:Int) < (D.length:Int)))) rfl rfl rfl<|dk<|o6<|x8 rfl hq49<|a2o<|a2n<|a1s<|a2m<|?_;obtain rfl:=os hc1;exact a2s ⟨_,rfl⟩ ⟨[],[],_,_,rfl,rfl,⟨.r,tr⟩,.r⟩
  ·rw [hd50,a5m.eq_2] at hc1
   have hq49:=dlt hlt45
   refine sr<|o7 (.bool (decide ((B:Int) < (D.length:Int)))) rfl rfl rfl<|dk<|o6<|x9 rfl hq49<|a0h<|a0j<|o6<|a2y<|sr<|l7 (.I (B:Int)) rfl<|l7 (.I (B:Int)) rfl<|dk<|sr<|l7 (.str D) rfl<|l7 (.I (B:Int)) rfl<|y7 (b2j rfl rfl hx46)<|l7 (.int .u8 (A.toNat:Int)) rfl<|dk<|o6<|?_
   obtain ⟨p52,hb2,hc1⟩:=ob hc1
   refine a2d ([(0,(.str D)),(3,(.I (B:Int))),(4,(.int .u8 (A.toNat:Int))),(5,(.bool (bif (bif (bif (decide ((A.toNat:Int) ≥ 97)) then (decide ((A.toNat:Int) ≤ 122)) else false) then true else (bif (decide ((A.toNat:Int) ≥ 65)) then (decide ((A.toNat:Int) ≤ 90)) else false)) then true else ((A.toNat:Int) == 95)))),(7,(.I (D.length:Int))),(8,(.I (B:Int)))],[]) ?_ ?_
   ·refine a0t<|l7 (.int .u8 (A.toNat:Int)) rfl<|o7 (.bool (decide ((A.toNat:Int) ≥ 97))) rfl rfl rfl<|l7 (.bool (decide ((A.toNat:Int) ≥ 97))) rfl<|?_;refine s_g (v:=(decide ((A.toNat:Int) ≥ 97))) (.int .u8 (A.toNat:Int)) rfl (fun hv => by (try simp only [a0c hv]);exact ⟨rfl,tr,rfl⟩) ?_;refine s_g (v:=(decide ((A.toNat:Int) ≥ 97))) (.bool (decide ((A.toNat:Int) ≤ 122))) rfl (fun hv => by (try simp only [a0c hv]);exact ⟨rfl,rfl,rfl⟩) ?_;refine a3a (x:=(decide ((A.toNat:Int) ≤ 122))) (y:=false) rfl (fun hv => by (try simp only [a0c hv]);rfl) (fun hv => by (try simp only [a0c hv]);rfl) ?_;refine l7 (.bool (bif (decide ((A.toNat:Int) ≥ 97)) then (decide ((A.toNat:Int) ≤ 122)) else false)) rfl ?_
    refine s_g (v:=(bif (decide ((A.toNat:Int) ≥ 97)) then (decide ((A.toNat:Int) ≤ 122)) else false)) (.int .u8 (A.toNat:Int)) rfl (fun hv => by (try simp only [a0c hv]);exact ⟨rfl,tr,rfl⟩) ?_;refine s_g (v:=(bif (decide ((A.toNat:Int) ≥ 97)) then (decide ((A.toNat:Int) ≤ 122)) else false)) (.bool (decide ((A.toNat:Int) ≥ 65))) rfl (fun hv => by (try simp only [a0c hv]);exact ⟨rfl,rfl,rfl⟩) ?_;refine s_g (v:=(bif (decide ((A.toNat:Int) ≥ 97)) then (decide ((A.toNat:Int) ≤ 122)) else false)) (.bool (decide ((A.toNat:Int) ≥ 65))) rfl (fun hv => by (try simp only [a0c hv]);exact ⟨rfl,tr,rfl⟩) ?_;refine c0e (v1:=(bif (decide ((A.toNat:Int) ≥ 97)) then (decide ((A.toNat:Int) ≤ 122)) else false)) (b1:=false) (v2:=(decide ((A.toNat:Int) ≥ 65))) (.int .u8 (A.toNat:Int)) rfl (fun hv hw => by (try simp only [a0c hv,a0c hw]);exact ⟨rfl,tr,rfl⟩) ?_
    refine c0e (v1:=(bif (decide ((A.toNat:Int) ≥ 97)) then (decide ((A.toNat:Int) ≤ 122)) else false)) (b1:=false) (v2:=(decide ((A.toNat:Int) ≥ 65))) (.bool (decide ((A.toNat:Int) ≤ 90))) rfl (fun hv hw => by (try simp only [a0c hv,a0c hw]);exact ⟨rfl,rfl,rfl⟩) ?_;refine e3d (v1:=(bif (decide ((A.toNat:Int) ≥ 97)) then (decide ((A.toNat:Int) ≤ 122)) else false)) (b1:=false) (v2:=(decide ((A.toNat:Int) ≥ 65))) (x:=(decide ((A.toNat:Int) ≤ 90))) (y:=false) rfl (fun hv => by (try simp only [a0c hv]);rfl) (fun hv hw => by (try simp only [a0c hv,a0c hw]);rfl) (fun hv hw => by (try simp only [a0c hv,a0c hw]);rfl) ?_;refine a3a (x:=true) (y:=(bif (decide ((A.toNat:Int) ≥ 65)) then (decide ((A.toNat:Int) ≤ 90)) else false)) rfl (fun hv => by (try simp only [a0c hv]);rfl) (fun hv => by (try simp only [a0c hv]);rfl) ?_
    refine l7 (.bool (bif (bif (decide ((A.toNat:Int) ≥ 97)) then (decide ((A.toNat:Int) ≤ 122)) else false) then true else (bif (decide ((A.toNat:Int) ≥ 65)) then (decide ((A.toNat:Int) ≤ 90)) else false))) rfl ?_;refine s_g (v:=(bif (bif (decide ((A.toNat:Int) ≥ 97)) then (decide ((A.toNat:Int) ≤ 122)) else false) then true else (bif (decide ((A.toNat:Int) ≥ 65)) then (decide ((A.toNat:Int) ≤ 90)) else false))) (.int .u8 (A.toNat:Int)) rfl (fun hv => by (try simp only [a0c hv]);exact ⟨rfl,tr,rfl⟩) ?_;refine s_g (v:=(bif (bif (decide ((A.toNat:Int) ≥ 97)) then (decide ((A.toNat:Int) ≤ 122)) else false) then true else (bif (decide ((A.toNat:Int) ≥ 65)) then (decide ((A.toNat:Int) ≤ 90)) else false))) (.bool ((A.toNat:Int) == 95)) rfl (fun hv => by (try simp only [a0c hv]);exact ⟨rfl,rfl,rfl⟩) ?_
    refine a3a (x:=true) (y:=((A.toNat:Int) == 95)) rfl (fun hv => by (try simp only [a0c hv]);rfl) (fun hv => by (try simp only [a0c hv]);rfl) ?_;refine l7 (.bool (bif (bif (bif (decide ((A.toNat:Int) ≥ 97)) then (decide ((A.toNat:Int) ≤ 122)) else false) then true else (bif (decide ((A.toNat:Int) ≥ 65)) then (decide ((A.toNat:Int) ≤ 90)) else false)) then true else ((A.toNat:Int) == 95))) rfl<|a0e<|?_;obtain rfl:=os hb2;exact ⟨[],[],_,_,rfl,rfl,⟨.r,⟨.r,⟨.r,⟨.r,⟨.r,⟨.r,tr⟩⟩⟩⟩⟩⟩,.r⟩
   ·refine o6 ?_
    obtain ⟨F,hb2,hc1⟩:=ob hc1
    refine a2d ([(0,(.str D)),(7,(.I (D.length:Int))),(8,(.I (B:Int))),(42,(.bool F))],[]) ?_ ?_
    ·refine a0t ?_
     rcases oi hb2 with ⟨c59,hb2⟩ | ⟨c59,hb2⟩
     ·rcases oi hb2 with ⟨c60,hb2⟩ | ⟨c60,hb2⟩
      ·refine l7 (.bool (bif (bif (bif (decide ((A.toNat:Int) ≥ 97)) then (decide ((A.toNat:Int) ≤ 122)) else false) then true else (bif (decide ((A.toNat:Int) ≥ 65)) then (decide ((A.toNat:Int) ≤ 90)) else false)) then true else ((A.toNat:Int) == 95))) rfl<|o7 (.bool (!(bif (bif (bif (decide ((A.toNat:Int) ≥ 97)) then (decide ((A.toNat:Int) ≤ 122)) else false) then true else (bif (decide ((A.toNat:Int) ≥ 65)) then (decide ((A.toNat:Int) ≤ 90)) else false)) then true else ((A.toNat:Int) == 95)))) rfl tr rfl<|l7 (.bool (!(bif (bif (bif (decide ((A.toNat:Int) ≥ 97)) then (decide ((A.toNat:Int) ≤ 122)) else false) then true else (bif (decide ((A.toNat:Int) ≥ 65)) then (decide ((A.toNat:Int) ≤ 90)) else false)) then true else ((A.toNat:Int) == 95)))) rfl<|?_
       refine a0x (s:=34) (b:=true) rfl c59<|s_on rfl<|l7 (.I (B:Int)) rfl<|s_on rfl<|o7 (.bool ((B:Int) == 0)) rfl rfl rfl<|s_on rfl<|l7 (.bool ((B:Int) == 0)) rfl<|a0x (s:=37) (b:=true) rfl c60<|y5 rfl rfl<|y5 rfl rfl<|y5 rfl rfl<|s_on rfl<|o7 (.bool true) rfl tr rfl<|o7 (.bool true) rfl tr rfl<|a0e<|?_;obtain rfl:=os hb2;exact ⟨[],[],_,_,rfl,rfl,⟨.r,⟨.r,⟨.r,⟨.r,tr⟩⟩⟩⟩,.r⟩
      ·obtain ⟨E,er62,hb2⟩:=ob hb2
       refine l7 (.bool (bif (bif (bif (decide ((A.toNat:Int) ≥ 97)) then (decide ((A.toNat:Int) ≤ 122)) else false) then true else (bif (decide ((A.toNat:Int) ≥ 65)) then (decide ((A.toNat:Int) ≤ 90)) else false)) then true else ((A.toNat:Int) == 95))) rfl<|o7 (.bool (!(bif (bif (bif (decide ((A.toNat:Int) ≥ 97)) then (decide ((A.toNat:Int) ≤ 122)) else false) then true else (bif (decide ((A.toNat:Int) ≥ 65)) then (decide ((A.toNat:Int) ≤ 90)) else false)) then true else ((A.toNat:Int) == 95)))) rfl tr rfl<|l7 (.bool (!(bif (bif (bif (decide ((A.toNat:Int) ≥ 97)) then (decide ((A.toNat:Int) ≤ 122)) else false) then true else (bif (decide ((A.toNat:Int) ≥ 65)) then (decide ((A.toNat:Int) ≤ 90)) else false)) then true else ((A.toNat:Int) == 95)))) rfl<|?_
       refine a0x (s:=34) (b:=true) rfl c59<|s_on rfl<|l7 (.I (B:Int)) rfl<|s_on rfl<|o7 (.bool ((B:Int) == 0)) rfl rfl rfl<|s_on rfl<|l7 (.bool ((B:Int) == 0)) rfl<|a0x (s:=37) (b:=false) rfl (bf c60)<|s_on rfl<|l7 (.int .u8 (A.toNat:Int)) rfl<|s_on rfl<|y7 (a0p (c7i _ _ er62) rfl .r rfl)<|s_on rfl<|o7 (.bool (!E)) rfl tr rfl<|s_on rfl<|o7 (.bool (!E)) rfl tr rfl<|o7 (.bool (!E)) rfl tr rfl<|a0e<|?_;obtain rfl:=os hb2;exact ⟨[],[],_,_,rfl,rfl,⟨.r,⟨.r,⟨.r,⟨.r,tr⟩⟩⟩⟩,.r⟩
     ·refine l7 (.bool (bif (bif (bif (decide ((A.toNat:Int) ≥ 97)) then (decide ((A.toNat:Int) ≤ 122)) else false) then true else (bif (decide ((A.toNat:Int) ≥ 65)) then (decide ((A.toNat:Int) ≤ 90)) else false)) then true else ((A.toNat:Int) == 95))) rfl<|o7 (.bool (!(bif (bif (bif (decide ((A.toNat:Int) ≥ 97)) then (decide ((A.toNat:Int) ≤ 122)) else false) then true else (bif (decide ((A.toNat:Int) ≥ 65)) then (decide ((A.toNat:Int) ≤ 90)) else false)) then true else ((A.toNat:Int) == 95)))) rfl tr rfl<|l7 (.bool (!(bif (bif (bif (decide ((A.toNat:Int) ≥ 97)) then (decide ((A.toNat:Int) ≤ 122)) else false) then true else (bif (decide ((A.toNat:Int) ≥ 65)) then (decide ((A.toNat:Int) ≤ 90)) else false)) then true else ((A.toNat:Int) == 95)))) rfl<|?_
      refine a0x (s:=34) (b:=false) rfl (bf c59)<|y5 rfl rfl<|y5 rfl rfl<|y5 rfl rfl<|a1g rfl<|a1g rfl<|a1g rfl<|y5 rfl rfl<|o7 (.bool false) rfl tr rfl<|a0e<|?_;obtain rfl:=os hb2;exact ⟨[],[],_,_,rfl,rfl,⟨.r,⟨.r,⟨.r,⟨.r,tr⟩⟩⟩⟩,.r⟩
    ·rcases oi hc1 with ⟨c63,hc1⟩ | ⟨c63,hc1⟩
     ·refine x9 rfl c63<|sr<|l7 (.bool false) rfl<|dk<|a0d<|?_;obtain rfl:=os hc1;obtain rfl:=os hf;exact a0f ⟨tr,tr⟩ rfl .r
     ·refine x8 rfl (bf c63)<|a0h<|a1v<|a0j<|a0t<|o7 (.I (w64 ((B:Int) + 1))) rfl rfl rfl<|l7 (.I (w64 ((B:Int) + 1))) rfl<|a0e<|?_;exact a1p ⟨(B + 1),hc1⟩ (mul hlt45) ⟨[],[],_,_,rfl,rfl,⟨.r,⟨.r,⟨.of_eq (congrArg (AV.int _) (a1r hlt45 hl2)),tr⟩⟩⟩,.r⟩
 ·rintro ⟨_,rfl⟩
  refine sr<|?_
  obtain ⟨G,er66,hf⟩:=ob hf
  refine l7 (.str D) rfl<|a1a (a9m rfl) fun hl64 => y7 (a0p (a7r _ _ _ _ er66) rfl .r rfl)<|l7 (.bool G) rfl<|dk<|a0d<|?_;obtain rfl:=os hf;exact a0f ⟨tr,tr⟩ rfl .r
def e9i:a0q :=
 (.seq (.reg (tm 4 (.c (.int .i64 0)) .done))
 (.seq (.seq (.reg (tm 6 (.t 0) (tq 7 (.len (.t 6)) (tm 8 (.c (.int .i64 0)) .done))))
 (.block 0 (.loop (.seq (.reg (tq 9 (.bin .lss (.t 8) (.t 7)) .done))
 (.seq (.cond (.t 9) .skip
 (.exit 0))
 (.seq (.block 1 (.seq (.reg (tm 10 (.t 8) (tm 5 (.t 10) .done)))
 (.seq (.reg (tm 11 (.t 1) (tm 12 (.t 0) (tm 13 (.t 5) (tq 14 (.iaddr 1 (.t 12) (.t 13)) (tq 15 (.load 1 false (.t 14)) (tq 16 (.calv (.t 11) [(.t 15)]) .done)))))))
 (.cond (.t 16) (.seq (.reg (tm 17 (.t 5) (tm 4 (.t 17) .done)))
 .ret)
 .skip))))
 (.reg (tq 18 (.bin .add (.t 8) (.c (.int .i64 1))) (tm 8 (.t 18) .done)))))))))
 (.cut (.seq (.reg (tq 4 (.mov (.c (.int .i64 (-1)))) .done))
 .ret))))
theorem e9j:a1b Tryz.prog Tryz.f284 = some (e9i.erase,[.mov (.t 4)],19):=by kernel_rfl
def a1f (D:(Str → Option Bool)):List Str → Nat → Option (Fl Int Unit)
  | [],A =>
    some (.go ())
  | E :: xs,A =>
    (D E).bind fun F =>
    if F then
    some (.ret (A:Int))
    else
    a1f D xs (A + 1)
def a3l (B:(List Str)) (D:(Str → Option Bool)):Option Int :=
    (a1f D B 0).bind fun q => (match q with
    | .ret r => some r
    | .go _ =>
    some (-1))
theorem b1r (B:(List Str)) (D:(Str → Option Bool)) (r:Int) (hf:a3l B D = some r) (kf_f_2:Nat) (cf_f_2:List AV) (okf_f_2:d3c Tryz.prog kf_f_2 = true) (hcf_f_2:∀ h p,a4j h p cf_f_2 = some cf_f_2) (hrf_f_2:∀ f,a7m f cf_f_2 = cf_f_2) (hpf_f_2:∀ a0 r,D a0 = some r → a0a Tryz.prog kf_f_2 .flat ([(.str a0)] ++ cf_f_2) (.bool r)):a0a Tryz.prog 284 .flat [(.lst 1 (B.map AV.str)),(.fn kf_f_2 cf_f_2)] (.I r):=by
 refine a0a.of_awp mixed Tryz.func284 e9j nle ?_;rw [a0l];unfold a3l at hf;unfold e9i;refine (show awp Tryz.prog false 0 _ (ofL [(0,(.lst 1 (B.map AV.str))),(1,(.fn kf_f_2 cf_f_2))]) [] _ from ?_);refine sr<|l7 (.I 0) rfl<|dk<|o6<|sr<|l7 (.lst 1 (B.map AV.str)) rfl<|a1a (a1t (enc:=AV.str) rfl) fun hl3 => l7 (.I 0) rfl<|dk<|?_
 obtain ⟨p24,hb1,hf⟩:=ob hf
 refine a1u (X:={q:Unit // p24 = .go q}) (fun q => ([],[])) ?_ ?_
 ·refine a1h (X:={q:Nat // a1f D (B.drop q) q = some p24}) (fun q => ([(0,(.lst 1 (B.map AV.str))),(1,(.fn kf_f_2 cf_f_2)),(7,(.I (B.length:Int))),(8,(.I (q.1:Int)))],[])) (fun q => B.length - q.1) ⟨0,hb1⟩ ⟨[],[],_,_,rfl,rfl,⟨.r,⟨.of_eq (congrArg (AV.fn _) (hrf_f_2 _)),⟨.r,⟨.r,tr⟩⟩⟩⟩,.r⟩ ?_
  rintro ⟨A,hc1⟩
  have hc1:a1f D (B.drop A) A = some p24:=hc1
  refine (show awp Tryz.prog false 0 _ (ofL [(0,(.lst 1 (B.map AV.str))),(1,(.fn kf_f_2 cf_f_2)),(7,(.I (B.length:Int))),(8,(.I (A:Int)))]) [] _ from ?_)
  rcases a5j B A with ⟨hie27,hd30⟩ | ⟨hlt25,E,hx26,hd30⟩
  ·rw [hd30,a1f.eq_1] at hc1
   have hq29:=dlf hie27
   refine sr<|o7 (.bool (decide ((A:Int) < (B.length:Int)))) rfl rfl rfl<|dk<|o6<|x8 rfl hq29<|a2o<|a2n<|a1s<|a2m<|?_;obtain rfl:=os hc1;exact a2s ⟨_,rfl⟩ ⟨[],[],_,_,rfl,rfl,tr,.r⟩
  ·rw [hd30,a1f.eq_2] at hc1
   have hq29:=dlt hlt25
   refine sr<|o7 (.bool (decide ((A:Int) < (B.length:Int)))) rfl rfl rfl<|dk<|o6<|x9 rfl hq29<|a0h<|a0j<|o6<|a2y<|sr<|l7 (.I (A:Int)) rfl<|l7 (.I (A:Int)) rfl<|dk<|sr<|?_
   obtain ⟨F,er33,hc1⟩:=ob hc1
   refine l7 (.fn kf_f_2 cf_f_2) rfl<|l7 (.lst 1 (B.map AV.str)) rfl<|l7 (.I (A:Int)) rfl<|y7 (a1m (enc:=AV.str) rfl rfl hx26)<|o7 (.str E) rfl ⟨rfl,rfl⟩ rfl<|y7 (d7a (v:=(.bool F)) rfl okf_f_2 hcf_f_2 (hpf_f_2 _ _ er33) rfl .r rfl)<|dk<|?_
   rcases oi hc1 with ⟨c34,hc1⟩ | ⟨c34,hc1⟩
   ·refine x9 rfl c34<|sr<|l7 (.I (A:Int)) rfl<|l7 (.I (A:Int)) rfl<|dk<|a0d<|?_;obtain rfl:=os hc1;obtain rfl:=os hf;exact a0f ⟨tr,tr⟩ rfl .r
   ·refine x8 rfl (bf c34)<|a0h<|a1v<|a0j<|a0t<|o7 (.I (w64 ((A:Int) + 1))) rfl rfl rfl<|l7 (.I (w64 ((A:Int) + 1))) rfl<|a0e<|?_;exact a1p ⟨(A + 1),hc1⟩ (mul hlt25) ⟨[],[],_,_,rfl,rfl,⟨.r,⟨.of_eq (congrArg (AV.fn _) (hrf_f_2 _)),⟨.r,⟨.of_eq (congrArg (AV.int _) (a1r hlt25 hl3)),tr⟩⟩⟩⟩,.r⟩
 ·rintro ⟨_,rfl⟩
  refine sr<|l7 (.I (-1)) rfl<|dk<|a0d<|?_;obtain rfl:=os hf;exact a0f ⟨tr,tr⟩ rfl .r
def c194:a0q :=
 (.seq (.reg (tm 4 (.c (.bool false)) .done))
 (.seq (.reg (tm 5 (.t 0) (tm 6 (.t 1) (tq 7 (.call 284 [(.t 5),(.t 6)]) (tq 8 (.bin .geq (.t 7) (.c (.int .i64 0))) (tm 4 (.t 8) .done))))))
 .ret))
theorem e9k:a1b Tryz.prog Tryz.f194 = some (c194.erase,[.mov (.t 4)],9):=by kernel_rfl
def a2u (A:(List Str)) (B:(Str → Option Bool)):Option Bool :=
    (a3l A B).bind fun D =>
    some (decide (D ≥ 0))
theorem b0k (A:(List Str)) (B:(Str → Option Bool)) (r:Bool) (hf:a2u A B = some r) (kf_f_2:Nat) (cf_f_2:List AV) (okf_f_2:d3c Tryz.prog kf_f_2 = true) (hcf_f_2:∀ h p,a4j h p cf_f_2 = some cf_f_2) (hrf_f_2:∀ f,a7m f cf_f_2 = cf_f_2) (hpf_f_2:∀ a0 r,B a0 = some r → a0a Tryz.prog kf_f_2 .flat ([(.str a0)] ++ cf_f_2) (.bool r)):a0a Tryz.prog 194 .flat [(.lst 1 (A.map AV.str)),(.fn kf_f_2 cf_f_2)] (.bool r):=by
  refine a0a.of_awp mixed Tryz.func194 e9k nle ?_
  rw [a0l]
  unfold a2u at hf
  unfold c194
  refine (show awp Tryz.prog false 0 _ (ofL [(0,(.lst 1 (A.map AV.str))),(1,(.fn kf_f_2 cf_f_2))]) [] _ from ?_)
  refine o6 ?_
  refine a0t ?_
  refine y7 (a4c (.bool false) rfl) ?_
  refine a0e ?_
  refine a0j ?_
  refine o6 ?_
  refine a0t ?_
  obtain ⟨D,er4,hf⟩:=ob hf
  refine y7 (a4c (.lst 1 (A.map AV.str)) rfl) ?_
  refine y7 (a4c (.fn kf_f_2 cf_f_2) rfl) ?_
  refine y7 (a0p (b1r _ _ _ er4 kf_f_2 cf_f_2 okf_f_2 hcf_f_2 hrf_f_2 hpf_f_2) (c1k rfl (c1k (e0o hcf_f_2) rfl)) .r rfl) ?_
  refine y7 (o_q (.bool (decide (D ≥ 0))) rfl rfl rfl) ?_
  refine y7 (a4c (.bool (decide (D ≥ 0))) rfl) ?_
  refine a0e ?_
  refine a0j ?_
  refine a0d ?_
  obtain rfl:=os hf
  exact a0f ⟨tr,tr⟩ rfl .r
def e9l:a0q :=
 (.seq (.reg (tm 2 (.c (.bool false)) .done))
 (.seq (.reg (tm 3 (.t 0) (tq 4 (.lenS (.t 3)) (tq 5 (.bin .gtr (.t 4) (.c (.int .i64 40))) (tm 2 (.t 5) .done)))))
 .ret))
theorem e9m:a1b Tryz.prog Tryz.f361 = some (e9l.erase,[.mov (.t 2)],6):=by kernel_rfl
def b0o (A:Str):Option Bool :=
    some (decide ((A.length:Int) > 40))
theorem c1x (A:Str) (r:Bool) (hf:b0o A = some r):a0a Tryz.prog 361 .flat [(.str A)] (.bool r):=by
  refine a0a.of_awp mixed Tryz.func361 e9m nle ?_
  rw [a0l]
  unfold b0o at hf
  unfold e9l
  refine (show awp Tryz.prog false 0 _ (ofL [(0,(.str A))]) [] _ from ?_)
  refine o6 ?_
  refine a0t ?_
  refine y7 (a4c (.bool false) rfl) ?_
  refine a0e ?_
  refine a0j ?_
  refine o6 ?_
  refine a0t ?_
  refine y7 (a4c (.str A) rfl) ?_
  refine a1a (a9m rfl) fun hl2 => ?_
  refine y7 (o_q (.bool (decide ((A.length:Int) > 40))) rfl rfl rfl) ?_
  refine y7 (a4c (.bool (decide ((A.length:Int) > 40))) rfl) ?_
  refine a0e ?_
  refine a0j ?_
  refine a0d ?_
  obtain rfl:=os hf
  exact a0f ⟨tr,tr⟩ rfl .r
def e9n:a0q :=
 (.seq (.reg (tm 2 (.c (.bool false)) .done))
 (.seq (.reg (tm 3 (.t 0) (tq 4 (.call 194 [(.t 3),(.c (.fn 361 []))]) (tq 5 (.not (.t 4)) (tm 2 (.t 5) .done)))))
 .ret))
theorem e9o:a1b Tryz.prog Tryz.f318 = some (e9n.erase,[.mov (.t 2)],6):=by kernel_rfl
def a7s (A:(List Str)):Option Bool :=
    (a2u A b0o).bind fun B =>
    some (!B)
theorem b3h (A:(List Str)) (r:Bool) (hf:a7s A = some r):a0a Tryz.prog 318 .flat [(.lst 1 (A.map AV.str))] (.bool r):=by
  refine a0a.of_awp mixed Tryz.func318 e9o nle ?_
  rw [a0l]
  unfold a7s at hf
  unfold e9n
  refine (show awp Tryz.prog false 0 _ (ofL [(0,(.lst 1 (A.map AV.str)))]) [] _ from ?_)
  refine o6 ?_
  refine a0t ?_
  refine y7 (a4c (.bool false) rfl) ?_
  refine a0e ?_
  refine a0j ?_
  refine o6 ?_
  refine a0t ?_
  obtain ⟨B,er3,hf⟩:=ob hf
  refine y7 (a4c (.lst 1 (A.map AV.str)) rfl) ?_
  refine y7 (a0p (b0k _ _ _ er3 361 [] (by kernel_rfl) (fun _ _ => rfl) (fun _ => rfl) (fun a0 r h => c1x a0 r h)) rfl .r rfl) ?_
  refine y7 (o_q (.bool (!B)) rfl tr rfl) ?_
  refine y7 (a4c (.bool (!B)) rfl) ?_
  refine a0e ?_
  refine a0j ?_
  refine a0d ?_
  obtain rfl:=os hf
  exact a0f ⟨tr,tr⟩ rfl .r
def e9p:a0q :=
 (.seq (.reg (tm 4 (.c (.int .i64 0)) .done))
 (.seq (.seq (.reg (tm 6 (.t 0) (tq 7 (.len (.t 6)) (tm 8 (.c (.int .i64 0)) .done))))
 (.block 0 (.loop (.seq (.reg (tq 9 (.bin .lss (.t 8) (.t 7)) .done))
 (.seq (.cond (.t 9) .skip
 (.exit 0))
 (.seq (.block 1 (.seq (.reg (tm 10 (.t 8) (tm 5 (.t 10) .done)))
 (.seq (.reg (tm 11 (.t 1) (tm 12 (.t 0) (tm 13 (.t 5) (tq 14 (.iaddr 3 (.t 12) (.t 13)) (tq 15 (.load 3 true (.t 14)) (tq 16 (.calv (.t 11) [(.t 15)]) .done)))))))
 (.cond (.t 16) (.seq (.reg (tm 17 (.t 5) (tm 4 (.t 17) .done)))
 .ret)
 .skip))))
 (.reg (tq 18 (.bin .add (.t 8) (.c (.int .i64 1))) (tm 8 (.t 18) .done)))))))))
 (.cut (.seq (.reg (tq 4 (.mov (.c (.int .i64 (-1)))) .done))
 .ret))))
theorem e9q:a1b Tryz.prog Tryz.f392 = some (e9p.erase,[.mov (.t 4)],19):=by kernel_rfl
def a0y (D:(a0m → Option Bool)):List a0m → Nat → Option (Fl Int Unit)
  | [],A =>
    some (.go ())
  | E :: xs,A =>
    (D E).bind fun F =>
    if F then
    some (.ret (A:Int))
    else
    a0y D xs (A + 1)
def a2g (B:(List a0m)) (D:(a0m → Option Bool)):Option Int :=
    (a0y D B 0).bind fun q => (match q with
    | .ret r => some r
    | .go _ =>
    some (-1))
theorem a9s (B:(List a0m)) (D:(a0m → Option Bool)) (r:Int) (hf:a2g B D = some r) (kf_f_2:Nat) (cf_f_2:List AV) (okf_f_2:d3c Tryz.prog kf_f_2 = true) (hcf_f_2:∀ h p,a4j h p cf_f_2 = some cf_f_2) (hrf_f_2:∀ f,a7m f cf_f_2 = cf_f_2) (hpf_f_2:∀ a0 r,D a0 = some r → a0a Tryz.prog kf_f_2 .flat ([(o8 a0)] ++ cf_f_2) (.bool r)):a0a Tryz.prog 392 .flat [(.lst 3 (B.map o8)),(.fn kf_f_2 cf_f_2)] (.I r):=by
 refine a0a.of_awp mixed Tryz.func392 e9q nle ?_;rw [a0l];unfold a2g at hf;unfold e9p;refine (show awp Tryz.prog false 0 _ (ofL [(0,(.lst 3 (B.map o8))),(1,(.fn kf_f_2 cf_f_2))]) [] _ from ?_);refine sr<|l7 (.I 0) rfl<|dk<|o6<|sr<|l7 (.lst 3 (B.map o8)) rfl<|a1a (a1t (enc:=o8) rfl) fun hl3 => l7 (.I 0) rfl<|dk<|?_
 obtain ⟨p24,hb1,hf⟩:=ob hf
 refine a1u (X:={q:Unit // p24 = .go q}) (fun q => ([],[])) ?_ ?_
 ·refine a1h (X:={q:Nat // a0y D (B.drop q) q = some p24}) (fun q => ([(0,(.lst 3 (B.map o8))),(1,(.fn kf_f_2 cf_f_2)),(7,(.I (B.length:Int))),(8,(.I (q.1:Int)))],[])) (fun q => B.length - q.1) ⟨0,hb1⟩ ⟨[],[],_,_,rfl,rfl,⟨.r,⟨.of_eq (congrArg (AV.fn _) (hrf_f_2 _)),⟨.r,⟨.r,tr⟩⟩⟩⟩,.r⟩ ?_
  rintro ⟨A,hc1⟩
  have hc1:a0y D (B.drop A) A = some p24:=hc1
  refine (show awp Tryz.prog false 0 _ (ofL [(0,(.lst 3 (B.map o8))),(1,(.fn kf_f_2 cf_f_2)),(7,(.I (B.length:Int))),(8,(.I (A:Int)))]) [] _ from ?_)
  rcases a5j B A with ⟨hie27,hd30⟩ | ⟨hlt25,E,hx26,hd30⟩
  ·rw [hd30,a0y.eq_1] at hc1
   have hq29:=dlf hie27
   refine sr<|o7 (.bool (decide ((A:Int) < (B.length:Int)))) rfl rfl rfl<|dk<|o6<|x8 rfl hq29<|a2o<|a2n<|a1s<|a2m<|?_;obtain rfl:=os hc1;exact a2s ⟨_,rfl⟩ ⟨[],[],_,_,rfl,rfl,tr,.r⟩
  ·rw [hd30,a0y.eq_2] at hc1
   have hq29:=dlt hlt25
   refine sr<|o7 (.bool (decide ((A:Int) < (B.length:Int)))) rfl rfl rfl<|dk<|o6<|x9 rfl hq29<|a0h<|a0j<|o6<|a2y<|sr<|l7 (.I (A:Int)) rfl<|l7 (.I (A:Int)) rfl<|dk<|sr<|?_
   obtain ⟨F,er33,hc1⟩:=ob hc1
   refine l7 (.fn kf_f_2 cf_f_2) rfl<|l7 (.lst 3 (B.map o8)) rfl<|l7 (.I (A:Int)) rfl<|y7 (a1m (enc:=o8) rfl rfl hx26)<|o7 (o8 E) rfl nle rfl<|y7 (d7a (v:=(.bool F)) rfl okf_f_2 hcf_f_2 (hpf_f_2 _ _ er33) rfl .r rfl)<|dk<|?_
   rcases oi hc1 with ⟨c34,hc1⟩ | ⟨c34,hc1⟩
   ·refine x9 rfl c34<|sr<|l7 (.I (A:Int)) rfl<|l7 (.I (A:Int)) rfl<|dk<|a0d<|?_;obtain rfl:=os hc1;obtain rfl:=os hf;exact a0f ⟨tr,tr⟩ rfl .r
   ·refine x8 rfl (bf c34)<|a0h<|a1v<|a0j<|a0t<|o7 (.I (w64 ((A:Int) + 1))) rfl rfl rfl<|l7 (.I (w64 ((A:Int) + 1))) rfl<|a0e<|?_;exact a1p ⟨(A + 1),hc1⟩ (mul hlt25) ⟨[],[],_,_,rfl,rfl,⟨.r,⟨.of_eq (congrArg (AV.fn _) (hrf_f_2 _)),⟨.r,⟨.of_eq (congrArg (AV.int _) (a1r hlt25 hl3)),tr⟩⟩⟩⟩,.r⟩
 ·rintro ⟨_,rfl⟩
  refine sr<|l7 (.I (-1)) rfl<|dk<|a0d<|?_;obtain rfl:=os hf;exact a0f ⟨tr,tr⟩ rfl .r
def e9r:a0q :=
 (.seq (.reg (tm 4 (.c (.bool false)) .done))
 (.seq (.reg (tm 5 (.t 0) (tm 6 (.t 1) (tq 7 (.call 392 [(.t 5),(.t 6)]) (tq 8 (.bin .geq (.t 7) (.c (.int .i64 0))) (tm 4 (.t 8) .done))))))
 .ret))
theorem e9s:a1b Tryz.prog Tryz.f362 = some (e9r.erase,[.mov (.t 4)],9):=by kernel_rfl
def a1z (A:(List a0m)) (B:(a0m → Option Bool)):Option Bool :=
    (a2g A B).bind fun D =>
    some (decide (D ≥ 0))
theorem a8v (A:(List a0m)) (B:(a0m → Option Bool)) (r:Bool) (hf:a1z A B = some r) (kf_f_2:Nat) (cf_f_2:List AV) (okf_f_2:d3c Tryz.prog kf_f_2 = true) (hcf_f_2:∀ h p,a4j h p cf_f_2 = some cf_f_2) (hrf_f_2:∀ f,a7m f cf_f_2 = cf_f_2) (hpf_f_2:∀ a0 r,B a0 = some r → a0a Tryz.prog kf_f_2 .flat ([(o8 a0)] ++ cf_f_2) (.bool r)):a0a Tryz.prog 362 .flat [(.lst 3 (A.map o8)),(.fn kf_f_2 cf_f_2)] (.bool r):=by
 refine a0a.of_awp mixed Tryz.func362 e9s nle ?_;rw [a0l];unfold a1z at hf;unfold e9r;refine (show awp Tryz.prog false 0 _ (ofL [(0,(.lst 3 (A.map o8))),(1,(.fn kf_f_2 cf_f_2))]) [] _ from ?_);refine sr<|l7 (.bool false) rfl<|dk<|sr<|?_
 obtain ⟨D,er4,hf⟩:=ob hf
 refine l7 (.lst 3 (A.map o8)) rfl<|l7 (.fn kf_f_2 cf_f_2) rfl<|y7 (a0p (a9s _ _ _ er4 kf_f_2 cf_f_2 okf_f_2 hcf_f_2 hrf_f_2 hpf_f_2) (c1k rfl (c1k (e0o hcf_f_2) rfl)) .r rfl)<|o7 (.bool (decide (D ≥ 0))) rfl rfl rfl<|l7 (.bool (decide (D ≥ 0))) rfl<|dk<|a0d<|?_;obtain rfl:=os hf;exact a0f ⟨tr,tr⟩ rfl .r
def e9t:a0q :=
 (.seq (.reg (tm 2 (.c (.bool false)) .done))
 (.seq (.reg (tm 3 (.t 0) (tm 4 (.t 0) (tq 5 (.bin .neq (.t 3) (.t 4)) (tm 2 (.t 5) .done)))))
 .ret))
theorem e9u:a1b Tryz.prog Tryz.f311 = some (e9t.erase,[.mov (.t 2)],6):=by kernel_rfl
def cmp_isNaN_int (A:Int):Option Bool :=
    some (A != A)
theorem b6u (A:Int) (r:Bool) (hf:cmp_isNaN_int A = some r):a0a Tryz.prog 311 .flat [(.I A)] (.bool r):=by
  refine a0a.of_awp mixed Tryz.func311 e9u nle ?_
  rw [a0l]
  unfold cmp_isNaN_int at hf
  unfold e9t
  refine (show awp Tryz.prog false 0 _ (ofL [(0,(.I A))]) [] _ from ?_)
  refine o6 ?_
  refine a0t ?_
  refine y7 (a4c (.bool false) rfl) ?_
  refine a0e ?_
  refine a0j ?_
  refine o6 ?_
  refine a0t ?_
  refine y7 (a4c (.I A) rfl) ?_
  refine y7 (a4c (.I A) rfl) ?_
  refine y7 (o_q (.bool (A != A)) rfl rfl rfl) ?_
  refine y7 (a4c (.bool (A != A)) rfl) ?_
  refine a0e ?_
  refine a0j ?_
  refine a0d ?_
  obtain rfl:=os hf
  exact a0f ⟨tr,tr⟩ rfl .r
end Go.R
