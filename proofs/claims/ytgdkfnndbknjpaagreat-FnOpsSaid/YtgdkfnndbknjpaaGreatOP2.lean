/- Walks. -/
import Derived.Test.YtgdkfnndbknjpaaGreatOP1
set_option linter.all false
namespace Go.R
open Go Go.Proofs
set_option linter.unusedVariables false
set_option linter.unusedSimpArgs false
set_option maxHeartbeats 8000000
/- (*spec.l00Src).cond -/
def d3t:a0s :=
 (.seq (.reg (tq 4 (.box 3 (.c (.agg [(.str []),(.int .i64 0),.nil]))) .done))
 (.seq (.reg (tq 8 (.call 25 []) (tq 9 (.field 0 1 false (.t 8)) (tm 10 (.t 1) (tq 11 (.iaddr 4 (.t 9) (.t 10)) (tq 12 (.load 4 true (.t 11)) (tq 5 (.box 4 (.c (.agg [(.str []),.nil,.nil,(.bool false)]))) (.q ⟨none,none,.store 4 (.t 5) (.t 12)⟩
 .done))))))))
 (.seq (.seq (.reg (tm 13 (.t 0) (tq 14 (.call 220 [(.t 13),(.c (.int .i64 8))]) .done)))
 (.cond (.t 14) (.seq (.reg (tm 16 (.t 0) (tm 20 (.t 0) (.l ⟨(some 15),none,.bslice 1 [(.c (.int .i64 1)),(.c (.int .i64 2)),(.c (.int .i64 7)),(.c (.int .i64 8))]⟩ []
 (.l ⟨(some 17),none,.call 123 [(.t 16),(.c (.int .i64 4))]⟩ []
 (tq 18 (.iaddr 1 (.t 15) (.t 17)) (tq 19 (.load 1 false (.t 18)) (.l ⟨(some 21),none,.call 285 [(.t 20),(.c (.int .i64 4))]⟩ [⟨(some 19),none,.load 1 false (.t 18)⟩,⟨(some 18),none,.iaddr 1 (.t 15) (.t 17)⟩]
 (.l ⟨(some 22),none,.bslice 3 [(.t 21)]⟩ [⟨(some 19),none,.load 1 false (.t 18)⟩,⟨(some 18),none,.iaddr 1 (.t 15) (.t 17)⟩]
 (tq 23 (.build [(.str []),(.int .i64 0),.nil] [(0,1,(.c (.str [95,117,117,105,100]))),(1,1,(.t 19)),(2,1,(.t 22))]) (.l ⟨none,none,.store 3 (.t 4) (.t 23)⟩ []
 .done .non)) .non) .non))) .non) (.l ⟨(some 17),none,.call 123 [(.t 16),(.c (.int .i64 4))]⟩ []
 (.l ⟨(some 15),none,.bslice 1 [(.c (.int .i64 1)),(.c (.int .i64 2)),(.c (.int .i64 7)),(.c (.int .i64 8))]⟩ []
 (tq 18 (.iaddr 1 (.t 15) (.t 17)) (tq 19 (.load 1 false (.t 18)) (.l ⟨(some 21),none,.call 285 [(.t 20),(.c (.int .i64 4))]⟩ [⟨(some 19),none,.load 1 false (.t 18)⟩,⟨(some 18),none,.iaddr 1 (.t 15) (.t 17)⟩]
 (.l ⟨(some 22),none,.bslice 3 [(.t 21)]⟩ [⟨(some 19),none,.load 1 false (.t 18)⟩,⟨(some 18),none,.iaddr 1 (.t 15) (.t 17)⟩]
 (tq 23 (.build [(.str []),(.int .i64 0),.nil] [(0,1,(.c (.str [95,117,117,105,100]))),(1,1,(.t 19)),(2,1,(.t 22))]) (.l ⟨none,none,.store 3 (.t 4) (.t 23)⟩ []
 .done .non)) .non) .non))) (.l ⟨(some 21),none,.call 285 [(.t 20),(.c (.int .i64 4))]⟩ []
 (.l ⟨(some 15),none,.bslice 1 [(.c (.int .i64 1)),(.c (.int .i64 2)),(.c (.int .i64 7)),(.c (.int .i64 8))]⟩ []
 (tq 18 (.iaddr 1 (.t 15) (.t 17)) (tq 19 (.load 1 false (.t 18)) (.l ⟨(some 22),none,.bslice 3 [(.t 21)]⟩ [⟨(some 19),none,.load 1 false (.t 18)⟩,⟨(some 18),none,.iaddr 1 (.t 15) (.t 17)⟩]
 (tq 23 (.build [(.str []),(.int .i64 0),.nil] [(0,1,(.c (.str [95,117,117,105,100]))),(1,1,(.t 19)),(2,1,(.t 22))]) (.l ⟨none,none,.store 3 (.t 4) (.t 23)⟩ []
 .done .non)) .non))) (.l ⟨(some 22),none,.bslice 3 [(.t 21)]⟩ []
 (.l ⟨(some 15),none,.bslice 1 [(.c (.int .i64 1)),(.c (.int .i64 2)),(.c (.int .i64 7)),(.c (.int .i64 8))]⟩ []
 (tq 18 (.iaddr 1 (.t 15) (.t 17)) (tq 19 (.load 1 false (.t 18)) (tq 23 (.build [(.str []),(.int .i64 0),.nil] [(0,1,(.c (.str [95,117,117,105,100]))),(1,1,(.t 19)),(2,1,(.t 22))]) (.l ⟨none,none,.store 3 (.t 4) (.t 23)⟩ []
 .done .non)))) .non) .non)) .non)) .non)))))
 .ret)
 .skip))
 (.seq (.reg (tq 24 (.faddr 1 (.t 5)) (tq 25 (.load 1 false (.t 24)) (tm 26 (.t 0) (tq 27 (.faddr 1 (.t 5)) (tq 28 (.load 1 false (.t 27)) (tq 29 (.len (.t 28)) (.l ⟨(some 30),none,.call 123 [(.t 26),(.t 29)]⟩ [⟨(some 25),none,.load 1 false (.t 24)⟩,⟨(some 24),none,.faddr 1 (.t 5)⟩]
 (tq 31 (.iaddr 8 (.t 25) (.t 30)) (tq 32 (.load 8 true (.t 31)) (.l ⟨(some 6),none,.box 8 (.c (.agg [(.str []),(.int .i64 0),(.int .i64 0),(.int .i64 0),(.int .i64 0),(.int .i64 0),(.str []),(.bool false)]))⟩ [⟨(some 32),none,.load 8 true (.t 31)⟩,⟨(some 31),none,.iaddr 8 (.t 25) (.t 30)⟩,⟨(some 29),none,.len (.t 28)⟩,⟨(some 28),none,.load 1 false (.t 27)⟩,⟨(some 27),none,.faddr 1 (.t 5)⟩,⟨(some 25),none,.load 1 false (.t 24)⟩,⟨(some 24),none,.faddr 1 (.t 5)⟩]
 (.l ⟨none,none,.store 8 (.t 6) (.t 32)⟩ []
 .done .non) .non))) (.l ⟨(some 6),none,.box 8 (.c (.agg [(.str []),(.int .i64 0),(.int .i64 0),(.int .i64 0),(.int .i64 0),(.int .i64 0),(.str []),(.bool false)]))⟩ [⟨(some 29),none,.len (.t 28)⟩,⟨(some 28),none,.load 1 false (.t 27)⟩,⟨(some 27),none,.faddr 1 (.t 5)⟩,⟨(some 25),none,.load 1 false (.t 24)⟩,⟨(some 24),none,.faddr 1 (.t 5)⟩]
 (.l ⟨(some 30),none,.call 123 [(.t 26),(.t 29)]⟩ [⟨(some 25),none,.load 1 false (.t 24)⟩,⟨(some 24),none,.faddr 1 (.t 5)⟩]
 (tq 31 (.iaddr 8 (.t 25) (.t 30)) (tq 32 (.load 8 true (.t 31)) (.l ⟨none,none,.store 8 (.t 6) (.t 32)⟩ []
 .done .non))) .non) .non)))))))))
 (.cut (.seq (.reg (tq 33 (.faddr 0 (.t 6)) (tq 34 (.load 1 false (.t 33)) (tm 36 (.t 0) (tm 40 (.t 0) (tq 41 (.faddr 1 (.t 6)) (tq 42 (.load 1 false (.t 41)) (.l ⟨(some 35),none,.bslice 1 [(.c (.int .i64 1)),(.c (.int .i64 2)),(.c (.int .i64 7)),(.c (.int .i64 8))]⟩ [⟨(some 42),none,.load 1 false (.t 41)⟩,⟨(some 41),none,.faddr 1 (.t 6)⟩,⟨(some 34),none,.load 1 false (.t 33)⟩,⟨(some 33),none,.faddr 0 (.t 6)⟩]
 (.l ⟨(some 37),none,.call 123 [(.t 36),(.c (.int .i64 4))]⟩ [⟨(some 42),none,.load 1 false (.t 41)⟩,⟨(some 41),none,.faddr 1 (.t 6)⟩,⟨(some 34),none,.load 1 false (.t 33)⟩,⟨(some 33),none,.faddr 0 (.t 6)⟩]
 (tq 38 (.iaddr 1 (.t 35) (.t 37)) (tq 39 (.load 1 false (.t 38)) (.l ⟨(some 43),none,.call 166 [(.t 40),(.t 42)]⟩ [⟨(some 39),none,.load 1 false (.t 38)⟩,⟨(some 38),none,.iaddr 1 (.t 35) (.t 37)⟩,⟨(some 34),none,.load 1 false (.t 33)⟩,⟨(some 33),none,.faddr 0 (.t 6)⟩]
 (tq 44 (.build [(.str []),(.int .i64 0),.nil] [(0,1,(.t 34)),(1,1,(.t 39)),(2,1,(.t 43))]) (.l ⟨(some 7),none,.box 3 (.c (.agg [(.str []),(.int .i64 0),.nil]))⟩ [⟨(some 44),none,.build [(.str []),(.int .i64 0),.nil] [(0,1,(.t 34)),(1,1,(.t 39)),(2,1,(.t 43))]⟩,⟨(some 39),none,.load 1 false (.t 38)⟩,⟨(some 38),none,.iaddr 1 (.t 35) (.t 37)⟩,⟨(some 42),none,.load 1 false (.t 41)⟩,⟨(some 41),none,.faddr 1 (.t 6)⟩,⟨(some 34),none,.load 1 false (.t 33)⟩,⟨(some 33),none,.faddr 0 (.t 6)⟩]
 (.l ⟨none,none,.store 3 (.t 7) (.t 44)⟩ []
 .done .non) .non)) (.l ⟨(some 7),none,.box 3 (.c (.agg [(.str []),(.int .i64 0),.nil]))⟩ [⟨(some 39),none,.load 1 false (.t 38)⟩,⟨(some 38),none,.iaddr 1 (.t 35) (.t 37)⟩,⟨(some 42),none,.load 1 false (.t 41)⟩,⟨(some 41),none,.faddr 1 (.t 6)⟩,⟨(some 34),none,.load 1 false (.t 33)⟩,⟨(some 33),none,.faddr 0 (.t 6)⟩]
 (.l ⟨(some 43),none,.call 166 [(.t 40),(.t 42)]⟩ [⟨(some 39),none,.load 1 false (.t 38)⟩,⟨(some 38),none,.iaddr 1 (.t 35) (.t 37)⟩,⟨(some 34),none,.load 1 false (.t 33)⟩,⟨(some 33),none,.faddr 0 (.t 6)⟩]
 (tq 44 (.build [(.str []),(.int .i64 0),.nil] [(0,1,(.t 34)),(1,1,(.t 39)),(2,1,(.t 43))]) (.l ⟨none,none,.store 3 (.t 7) (.t 44)⟩ []
 .done .non)) .non) .non)))) (.l ⟨(some 7),none,.box 3 (.c (.agg [(.str []),(.int .i64 0),.nil]))⟩ [⟨(some 42),none,.load 1 false (.t 41)⟩,⟨(some 41),none,.faddr 1 (.t 6)⟩,⟨(some 34),none,.load 1 false (.t 33)⟩,⟨(some 33),none,.faddr 0 (.t 6)⟩]
 (.l ⟨(some 37),none,.call 123 [(.t 36),(.c (.int .i64 4))]⟩ [⟨(some 42),none,.load 1 false (.t 41)⟩,⟨(some 41),none,.faddr 1 (.t 6)⟩,⟨(some 34),none,.load 1 false (.t 33)⟩,⟨(some 33),none,.faddr 0 (.t 6)⟩]
 (tq 38 (.iaddr 1 (.t 35) (.t 37)) (tq 39 (.load 1 false (.t 38)) (.l ⟨(some 43),none,.call 166 [(.t 40),(.t 42)]⟩ [⟨(some 39),none,.load 1 false (.t 38)⟩,⟨(some 38),none,.iaddr 1 (.t 35) (.t 37)⟩,⟨(some 34),none,.load 1 false (.t 33)⟩,⟨(some 33),none,.faddr 0 (.t 6)⟩]
 (tq 44 (.build [(.str []),(.int .i64 0),.nil] [(0,1,(.t 34)),(1,1,(.t 39)),(2,1,(.t 43))]) (.l ⟨none,none,.store 3 (.t 7) (.t 44)⟩ []
 .done .non)) .non))) .non) .non)) (.l ⟨(some 37),none,.call 123 [(.t 36),(.c (.int .i64 4))]⟩ [⟨(some 42),none,.load 1 false (.t 41)⟩,⟨(some 41),none,.faddr 1 (.t 6)⟩,⟨(some 34),none,.load 1 false (.t 33)⟩,⟨(some 33),none,.faddr 0 (.t 6)⟩]
 (.l ⟨(some 35),none,.bslice 1 [(.c (.int .i64 1)),(.c (.int .i64 2)),(.c (.int .i64 7)),(.c (.int .i64 8))]⟩ [⟨(some 42),none,.load 1 false (.t 41)⟩,⟨(some 41),none,.faddr 1 (.t 6)⟩,⟨(some 34),none,.load 1 false (.t 33)⟩,⟨(some 33),none,.faddr 0 (.t 6)⟩]
 (tq 38 (.iaddr 1 (.t 35) (.t 37)) (tq 39 (.load 1 false (.t 38)) (.l ⟨(some 43),none,.call 166 [(.t 40),(.t 42)]⟩ [⟨(some 39),none,.load 1 false (.t 38)⟩,⟨(some 38),none,.iaddr 1 (.t 35) (.t 37)⟩,⟨(some 34),none,.load 1 false (.t 33)⟩,⟨(some 33),none,.faddr 0 (.t 6)⟩]
 (tq 44 (.build [(.str []),(.int .i64 0),.nil] [(0,1,(.t 34)),(1,1,(.t 39)),(2,1,(.t 43))]) (.l ⟨(some 7),none,.box 3 (.c (.agg [(.str []),(.int .i64 0),.nil]))⟩ [⟨(some 44),none,.build [(.str []),(.int .i64 0),.nil] [(0,1,(.t 34)),(1,1,(.t 39)),(2,1,(.t 43))]⟩,⟨(some 39),none,.load 1 false (.t 38)⟩,⟨(some 38),none,.iaddr 1 (.t 35) (.t 37)⟩,⟨(some 42),none,.load 1 false (.t 41)⟩,⟨(some 41),none,.faddr 1 (.t 6)⟩,⟨(some 34),none,.load 1 false (.t 33)⟩,⟨(some 33),none,.faddr 0 (.t 6)⟩]
 (.l ⟨none,none,.store 3 (.t 7) (.t 44)⟩ []
 .done .non) .non)) (.l ⟨(some 7),none,.box 3 (.c (.agg [(.str []),(.int .i64 0),.nil]))⟩ [⟨(some 39),none,.load 1 false (.t 38)⟩,⟨(some 38),none,.iaddr 1 (.t 35) (.t 37)⟩,⟨(some 42),none,.load 1 false (.t 41)⟩,⟨(some 41),none,.faddr 1 (.t 6)⟩,⟨(some 34),none,.load 1 false (.t 33)⟩,⟨(some 33),none,.faddr 0 (.t 6)⟩]
 (.l ⟨(some 43),none,.call 166 [(.t 40),(.t 42)]⟩ [⟨(some 39),none,.load 1 false (.t 38)⟩,⟨(some 38),none,.iaddr 1 (.t 35) (.t 37)⟩,⟨(some 34),none,.load 1 false (.t 33)⟩,⟨(some 33),none,.faddr 0 (.t 6)⟩]
 (tq 44 (.build [(.str []),(.int .i64 0),.nil] [(0,1,(.t 34)),(1,1,(.t 39)),(2,1,(.t 43))]) (.l ⟨none,none,.store 3 (.t 7) (.t 44)⟩ []
 .done .non)) .non) .non)))) (.l ⟨(some 43),none,.call 166 [(.t 40),(.t 42)]⟩ [⟨(some 34),none,.load 1 false (.t 33)⟩,⟨(some 33),none,.faddr 0 (.t 6)⟩]
 (.l ⟨(some 35),none,.bslice 1 [(.c (.int .i64 1)),(.c (.int .i64 2)),(.c (.int .i64 7)),(.c (.int .i64 8))]⟩ [⟨(some 42),none,.load 1 false (.t 41)⟩,⟨(some 41),none,.faddr 1 (.t 6)⟩,⟨(some 34),none,.load 1 false (.t 33)⟩,⟨(some 33),none,.faddr 0 (.t 6)⟩]
 (tq 38 (.iaddr 1 (.t 35) (.t 37)) (tq 39 (.load 1 false (.t 38)) (tq 44 (.build [(.str []),(.int .i64 0),.nil] [(0,1,(.t 34)),(1,1,(.t 39)),(2,1,(.t 43))]) (.l ⟨(some 7),none,.box 3 (.c (.agg [(.str []),(.int .i64 0),.nil]))⟩ [⟨(some 44),none,.build [(.str []),(.int .i64 0),.nil] [(0,1,(.t 34)),(1,1,(.t 39)),(2,1,(.t 43))]⟩,⟨(some 39),none,.load 1 false (.t 38)⟩,⟨(some 38),none,.iaddr 1 (.t 35) (.t 37)⟩,⟨(some 42),none,.load 1 false (.t 41)⟩,⟨(some 41),none,.faddr 1 (.t 6)⟩,⟨(some 34),none,.load 1 false (.t 33)⟩,⟨(some 33),none,.faddr 0 (.t 6)⟩]
 (.l ⟨none,none,.store 3 (.t 7) (.t 44)⟩ []
 .done .non) .non)))) (.l ⟨(some 7),none,.box 3 (.c (.agg [(.str []),(.int .i64 0),.nil]))⟩ [⟨(some 42),none,.load 1 false (.t 41)⟩,⟨(some 41),none,.faddr 1 (.t 6)⟩,⟨(some 34),none,.load 1 false (.t 33)⟩,⟨(some 33),none,.faddr 0 (.t 6)⟩]
 (.l ⟨(some 35),none,.bslice 1 [(.c (.int .i64 1)),(.c (.int .i64 2)),(.c (.int .i64 7)),(.c (.int .i64 8))]⟩ [⟨(some 42),none,.load 1 false (.t 41)⟩,⟨(some 41),none,.faddr 1 (.t 6)⟩,⟨(some 34),none,.load 1 false (.t 33)⟩,⟨(some 33),none,.faddr 0 (.t 6)⟩]
 (tq 38 (.iaddr 1 (.t 35) (.t 37)) (tq 39 (.load 1 false (.t 38)) (tq 44 (.build [(.str []),(.int .i64 0),.nil] [(0,1,(.t 34)),(1,1,(.t 39)),(2,1,(.t 43))]) (.l ⟨none,none,.store 3 (.t 7) (.t 44)⟩ []
 .done .non)))) .non) .non)) (.l ⟨(some 7),none,.box 3 (.c (.agg [(.str []),(.int .i64 0),.nil]))⟩ [⟨(some 42),none,.load 1 false (.t 41)⟩,⟨(some 41),none,.faddr 1 (.t 6)⟩,⟨(some 34),none,.load 1 false (.t 33)⟩,⟨(some 33),none,.faddr 0 (.t 6)⟩]
 (.l ⟨(some 35),none,.bslice 1 [(.c (.int .i64 1)),(.c (.int .i64 2)),(.c (.int .i64 7)),(.c (.int .i64 8))]⟩ [⟨(some 42),none,.load 1 false (.t 41)⟩,⟨(some 41),none,.faddr 1 (.t 6)⟩,⟨(some 34),none,.load 1 false (.t 33)⟩,⟨(some 33),none,.faddr 0 (.t 6)⟩]
 (tq 38 (.iaddr 1 (.t 35) (.t 37)) (tq 39 (.load 1 false (.t 38)) (.l ⟨(some 43),none,.call 166 [(.t 40),(.t 42)]⟩ [⟨(some 39),none,.load 1 false (.t 38)⟩,⟨(some 38),none,.iaddr 1 (.t 35) (.t 37)⟩,⟨(some 34),none,.load 1 false (.t 33)⟩,⟨(some 33),none,.faddr 0 (.t 6)⟩]
 (tq 44 (.build [(.str []),(.int .i64 0),.nil] [(0,1,(.t 34)),(1,1,(.t 39)),(2,1,(.t 43))]) (.l ⟨none,none,.store 3 (.t 7) (.t 44)⟩ []
 .done .non)) .non))) (.l ⟨(some 43),none,.call 166 [(.t 40),(.t 42)]⟩ [⟨(some 34),none,.load 1 false (.t 33)⟩,⟨(some 33),none,.faddr 0 (.t 6)⟩]
 (.l ⟨(some 35),none,.bslice 1 [(.c (.int .i64 1)),(.c (.int .i64 2)),(.c (.int .i64 7)),(.c (.int .i64 8))]⟩ [⟨(some 42),none,.load 1 false (.t 41)⟩,⟨(some 41),none,.faddr 1 (.t 6)⟩,⟨(some 34),none,.load 1 false (.t 33)⟩,⟨(some 33),none,.faddr 0 (.t 6)⟩]
 (tq 38 (.iaddr 1 (.t 35) (.t 37)) (tq 39 (.load 1 false (.t 38)) (tq 44 (.build [(.str []),(.int .i64 0),.nil] [(0,1,(.t 34)),(1,1,(.t 39)),(2,1,(.t 43))]) (.l ⟨none,none,.store 3 (.t 7) (.t 44)⟩ []
 .done .non)))) .non) .non)) .non))) (.l ⟨(some 7),none,.box 3 (.c (.agg [(.str []),(.int .i64 0),.nil]))⟩ [⟨(some 42),none,.load 1 false (.t 41)⟩,⟨(some 41),none,.faddr 1 (.t 6)⟩,⟨(some 34),none,.load 1 false (.t 33)⟩,⟨(some 33),none,.faddr 0 (.t 6)⟩]
 (.l ⟨(some 35),none,.bslice 1 [(.c (.int .i64 1)),(.c (.int .i64 2)),(.c (.int .i64 7)),(.c (.int .i64 8))]⟩ [⟨(some 42),none,.load 1 false (.t 41)⟩,⟨(some 41),none,.faddr 1 (.t 6)⟩,⟨(some 34),none,.load 1 false (.t 33)⟩,⟨(some 33),none,.faddr 0 (.t 6)⟩]
 (.l ⟨(some 37),none,.call 123 [(.t 36),(.c (.int .i64 4))]⟩ [⟨(some 42),none,.load 1 false (.t 41)⟩,⟨(some 41),none,.faddr 1 (.t 6)⟩,⟨(some 34),none,.load 1 false (.t 33)⟩,⟨(some 33),none,.faddr 0 (.t 6)⟩]
 (tq 38 (.iaddr 1 (.t 35) (.t 37)) (tq 39 (.load 1 false (.t 38)) (.l ⟨(some 43),none,.call 166 [(.t 40),(.t 42)]⟩ [⟨(some 39),none,.load 1 false (.t 38)⟩,⟨(some 38),none,.iaddr 1 (.t 35) (.t 37)⟩,⟨(some 34),none,.load 1 false (.t 33)⟩,⟨(some 33),none,.faddr 0 (.t 6)⟩]
 (tq 44 (.build [(.str []),(.int .i64 0),.nil] [(0,1,(.t 34)),(1,1,(.t 39)),(2,1,(.t 43))]) (.l ⟨none,none,.store 3 (.t 7) (.t 44)⟩ []
 .done .non)) .non))) .non) (.l ⟨(some 37),none,.call 123 [(.t 36),(.c (.int .i64 4))]⟩ [⟨(some 42),none,.load 1 false (.t 41)⟩,⟨(some 41),none,.faddr 1 (.t 6)⟩,⟨(some 34),none,.load 1 false (.t 33)⟩,⟨(some 33),none,.faddr 0 (.t 6)⟩]
 (.l ⟨(some 35),none,.bslice 1 [(.c (.int .i64 1)),(.c (.int .i64 2)),(.c (.int .i64 7)),(.c (.int .i64 8))]⟩ [⟨(some 42),none,.load 1 false (.t 41)⟩,⟨(some 41),none,.faddr 1 (.t 6)⟩,⟨(some 34),none,.load 1 false (.t 33)⟩,⟨(some 33),none,.faddr 0 (.t 6)⟩]
 (tq 38 (.iaddr 1 (.t 35) (.t 37)) (tq 39 (.load 1 false (.t 38)) (.l ⟨(some 43),none,.call 166 [(.t 40),(.t 42)]⟩ [⟨(some 39),none,.load 1 false (.t 38)⟩,⟨(some 38),none,.iaddr 1 (.t 35) (.t 37)⟩,⟨(some 34),none,.load 1 false (.t 33)⟩,⟨(some 33),none,.faddr 0 (.t 6)⟩]
 (tq 44 (.build [(.str []),(.int .i64 0),.nil] [(0,1,(.t 34)),(1,1,(.t 39)),(2,1,(.t 43))]) (.l ⟨none,none,.store 3 (.t 7) (.t 44)⟩ []
 .done .non)) .non))) (.l ⟨(some 43),none,.call 166 [(.t 40),(.t 42)]⟩ [⟨(some 34),none,.load 1 false (.t 33)⟩,⟨(some 33),none,.faddr 0 (.t 6)⟩]
 (.l ⟨(some 35),none,.bslice 1 [(.c (.int .i64 1)),(.c (.int .i64 2)),(.c (.int .i64 7)),(.c (.int .i64 8))]⟩ [⟨(some 42),none,.load 1 false (.t 41)⟩,⟨(some 41),none,.faddr 1 (.t 6)⟩,⟨(some 34),none,.load 1 false (.t 33)⟩,⟨(some 33),none,.faddr 0 (.t 6)⟩]
 (tq 38 (.iaddr 1 (.t 35) (.t 37)) (tq 39 (.load 1 false (.t 38)) (tq 44 (.build [(.str []),(.int .i64 0),.nil] [(0,1,(.t 34)),(1,1,(.t 39)),(2,1,(.t 43))]) (.l ⟨none,none,.store 3 (.t 7) (.t 44)⟩ []
 .done .non)))) .non) .non)) .non)) .non))))))))))
 (.cut (.seq (.seq (.reg (tq 45 (.faddr 1 (.t 6)) (tq 46 (.load 1 false (.t 45)) (tq 47 (.bin .eql (.t 46) (.c (.int .i64 1))) (tm 48 (.t 47) (tg 49 48 true (.mov (.t 0)) (tg 50 48 true (.call 220 [(.t 49),(.c (.int .i64 2))]) (tq 51 (.pick (.t 48) (.t 50) (.c (.bool false))) .done))))))))
 (.cut (.cond (.t 51) (.reg (tm 52 (.t 0) (tq 53 (.call 123 [(.t 52),(.c (.int .i64 4))]) (tq 54 (.bin .add (.c (.int .i64 3)) (.t 53)) (tq 55 (.faddr 1 (.t 7)) (.q ⟨none,none,.store 1 (.t 55) (.t 54)⟩
 .done))))))
 .skip)))
 (.cut (.seq (.seq (.reg (tm 56 (.t 0) (tq 57 (.call 220 [(.t 56),(.c (.int .i64 2))]) .done)))
 (.cond (.t 57) (.reg (tm 58 (.t 0) (tq 59 (.faddr 1 (.t 6)) (tq 60 (.load 1 false (.t 59)) (tq 61 (.call 285 [(.t 58),(.t 60)]) (tq 62 (.bslice 3 [(.t 61)]) (tq 63 (.faddr 2 (.t 7)) (.q ⟨none,none,.store 1 (.t 63) (.t 62)⟩
 .done))))))))
 .skip))
 (.cut (.seq (.seq (.reg (tq 64 (.faddr 1 (.t 7)) (tq 65 (.load 1 false (.t 64)) (tq 66 (.call 158 [(.t 65),(.c (.int .i64 3)),(.c (.int .i64 6))]) (tm 67 (.t 66) (tg 68 67 true (.faddr 2 (.t 7)) (tg 69 67 true (.load 1 false (.t 68)) (tg 70 67 true (.len (.t 69)) (tg 71 67 true (.bin .neq (.t 70) (.c (.int .i64 1))) (tq 72 (.pick (.t 67) (.t 71) (.c (.bool false))) .done))))))))))
 (.cut (.cond (.t 72) (.reg (tm 73 (.t 0) (tq 74 (.faddr 1 (.t 6)) (tq 75 (.load 1 false (.t 74)) (tq 76 (.call 285 [(.t 73),(.t 75)]) (tq 77 (.bslice 3 [(.t 76)]) (tq 78 (.faddr 2 (.t 7)) (.q ⟨none,none,.store 1 (.t 78) (.t 77)⟩
 .done))))))))
 .skip)))
 (.seq (.reg (tq 79 (.load 3 true (.t 7)) (.q ⟨none,none,.store 3 (.t 4) (.t 79)⟩
 .done)))
 .ret)))))))))))))
theorem d8g:a1e Tryz.prog Tryz.f408 = some (d3t.erase,[.load 3 true (.t 4)],80):=by kernel_rfl
def a9b (Aa:Int) (Ae:a0h):Option (a2v × a0h) :=
    (a6e).bind fun Au =>
    (idx Au.Tables Aa).bind fun G =>
    (a1r 8 Ae).bind fun Ag =>
    if Ag.1 then
    (a0z 4 Ag.2).bind fun V =>
    if (0:Int) ≤ V.1 ∧ V.1 < (4:Int) then
    ([(1:Int),(2:Int),(7:Int),(8:Int)][(0 + V.1.toNat)]?).bind fun P =>
    (a2k 4 V.2).bind fun R =>
    some ((⟨[95,117,117,105,100],P,[R.1]⟩:a2v),R.2)
    else none
    else
    (((a0z (G.Columns.length:Int) Ag.2).bind fun W =>
    (idx G.Columns W.1).bind fun E =>
    some (W.2.Code,W.2.At,W.2.Seed,E.Name,E.Kind,E.Min,E.Max,E.Low,E.High,E.Ref,E.Strong):Option ((List Int) × Int × Int × Str × Int × Int × Int × Int × Int × Str × Bool))).bind fun p33 =>
    (match p33 with
    | (Av,Aw,Ax,A,F,H,J,K,L,M,N) =>
    (((a0z 4 (⟨Av,Aw,Ax⟩:a0h)).bind fun O =>
    if (0:Int) ≤ O.1 ∧ O.1 < (4:Int) then
    ([(1:Int),(2:Int),(7:Int),(8:Int)][(0 + O.1.toNat)]?).bind fun D =>
    (a4g F O.2).bind fun B =>
    some (B.2.Code,B.2.At,B.2.Seed,D,B.1)
    else none:Option ((List Int) × Int × Int × Int × (List a1c)))).bind fun p51 =>
    (match p51 with
    | (An,Ao,Ap,Ai,Ad) =>
    ((((if (F == 1) then
    (a1r 2 (⟨An,Ao,Ap⟩:a0h)).bind fun Ac =>
    some (Ac.1,Ac.2.Code,Ac.2.At,Ac.2.Seed)
    else
    some (false,An,Ao,Ap):Option (Bool × (List Int) × Int × Int))).bind fun p85 =>
    (match p85 with
    | (Am,Aq,Ar,As) =>
    if Am then
    (a0z 4 (⟨Aq,Ar,As⟩:a0h)).bind fun Z =>
    some (Z.2.Code,Z.2.At,Z.2.Seed,w64 (3 + Z.1))
    else
    some (Aq,Ar,As,Ai)):Option ((List Int) × Int × Int × Int))).bind fun p77 =>
    (match p77 with
    | (Ay,Az,A0,S) =>
    (((a1r 2 (⟨Ay,Az,A0⟩:a0h)).bind fun Y =>
    if Y.1 then
    (a2k F Y.2).bind fun T =>
    some (T.2.Code,T.2.At,T.2.Seed,[T.1])
    else
    some (Y.2.Code,Y.2.At,Y.2.Seed,Ad):Option ((List Int) × Int × Int × (List a1c)))).bind fun p101 =>
    (match p101 with
    | (Aj,Ak,Al,U) =>
    (((a3f S 3 6).bind fun Ah =>
    if Ah then
    some ((U.length:Int) != 1)
    else
    some false:Option Bool)).bind fun Af =>
    if Af then
    (a2k F (⟨Aj,Ak,Al⟩:a0h)).bind fun Ab =>
    some ((⟨A,S,[Ab.1]⟩:a2v),Ab.2)
    else
    some ((⟨A,S,U⟩:a2v),(⟨Aj,Ak,Al⟩:a0h))))))
theorem b9u (Aa:Int) (Ae:a0h) (r:(a2v × a0h)) (hf:a9b Aa Ae = some r):a1u Tryz.prog false 408 [(.ptr 0 0 0),(.I Aa)] [.box 3 (.agg [(.lst 1 (Ae.Code.map a0c)),(.I Ae.At),(.I Ae.Seed)])] (a0d r.1) [.box 3 (.agg [(.lst 1 (r.2.Code.map a0c)),(.I r.2.At),(.I r.2.Seed)])]:=by
 refine a1u.of_awp mixed Tryz.func408 d8g nle ?_;rw [a0n];unfold a9b at hf;unfold d3t;refine (show awp Tryz.prog false 1 _ (ofL [(0,(.ptr 0 0 0)),(1,(.I Aa))]) [.box 3 (.agg [(.lst 1 (Ae.Code.map a0c)),(.I Ae.At),(.I Ae.Seed)])] _ from ?_);refine sr<|x8 (a1j (j:=1) (c:=(.agg [(.str []),(.I 0),.nil])) rfl tr rfl rfl)<|dk<|sr<|?_
 obtain ⟨Au,er4,hf⟩:=ob hf
 obtain ⟨G,ex6,hf⟩:=ob hf
 refine x8 (c9d rfl (a8b _ er4) rfl .r rfl)<|o8 (.lst 4 (Au.Tables.map x9)) rfl nle rfl<|l7 (.I Aa) rfl<|x8 (a2t (enc:=x9) rfl rfl (a8n ex6) (a8o ex6))<|o8 (x9 G) rfl nle rfl<|x8 (a1j (j:=2) (c:=(.agg [(.str []),.nil,.nil,(.bool false)])) rfl tr rfl rfl)<|a3o (a0e (v:=(.agg [(.str G.Name),(.lst 8 (G.Columns.map o5)),(.lst 1 (G.Unique.map encI)),(.bool G.Root)])) (y':=(.agg [(.str G.Name),(.lst 8 (G.Columns.map o5)),(.lst 1 (G.Unique.map encI)),(.bool G.Root)])) rfl rfl rfl tr ⟨rfl,nle⟩ ⟨⟨rfl,tr⟩,⟨⟨rfl,tr⟩,⟨⟨rfl,tr⟩,⟨⟨rfl,tr⟩,tr⟩⟩⟩⟩ rfl)<|?_
 refine dk<|o7<|sr<|?_
 obtain ⟨Ag,er8,hf⟩:=ob hf
 refine l7 (.ptr 0 0 0) rfl ?_;refine x8 (a0u (v:=(.bool Ag.1)) (h2:=[.box 3 (.agg [(.lst 1 (Ag.2.Code.map a0c)),(.I Ag.2.At),(.I Ag.2.Seed)]),.box 3 (.agg [(.str []),(.I 0),.nil]),.box 4 (.agg [(.str G.Name),(.lst 8 (G.Columns.map o5)),(.lst 1 (G.Unique.map encI)),(.bool G.Root)])]) [] [0] (fun _ => rfl) (a1w _ _ _ er8) rfl .r .r rfl rfl) ?_;refine dk<|?_
 rcases oi hf with ⟨c9,hf⟩ | ⟨c9,hf⟩
 ·refine y8 rfl c9<|sr<|?_
  obtain ⟨V,er11,hf⟩:=ob hf
  obtain ⟨g12,hf⟩:=og hf
  obtain ⟨P,ex14,hf⟩:=ob hf
  obtain ⟨R,er16,hf⟩:=ob hf
  refine l7 (.ptr 0 0 0) rfl<|l7 (.ptr 0 0 0) rfl<|?_;refine a1a (a0t (j:=3) (as':=[(.I 1),(.I 2),(.I 7),(.I 8)]) rfl (fun _ => by decide) ⟨rfl,⟨rfl,⟨rfl,⟨rfl,tr⟩⟩⟩⟩ .r rfl rfl rfl) tr ?_ ?_
  ·refine a1a (a0u (v:=(.I V.1)) (h2:=[.box 3 (.agg [(.lst 1 (V.2.Code.map a0c)),(.I V.2.At),(.I V.2.Seed)]),.box 3 (.agg [(.str []),(.I 0),.nil]),.box 4 (.agg [(.str G.Name),(.lst 8 (G.Columns.map o5)),(.lst 1 (G.Unique.map encI)),(.bool G.Root)])]) [] [0] (fun _ => rfl) (a0p _ _ _ er11) rfl .r .r rfl rfl) tr tr ?_;refine a1a (a0t (j:=3) (as':=[(.I 1),(.I 2),(.I 7),(.I 8)]) rfl (fun _ => by decide) ⟨rfl,⟨rfl,⟨rfl,⟨rfl,tr⟩⟩⟩⟩ .r rfl rfl rfl) tr ?_ ?_
   ·refine a1a (a0u (v:=(l9 R.1)) (h2:=[.box 3 (.agg [(.lst 1 (R.2.Code.map a0c)),(.I R.2.At),(.I R.2.Seed)]),.box 3 (.agg [(.str []),(.I 0),.nil]),.box 4 (.agg [(.str G.Name),(.lst 8 (G.Columns.map o5)),(.lst 1 (G.Unique.map encI)),(.bool G.Root)])]) [] [0] (fun _ => rfl) (a2n _ _ _ er16) rfl .r .r rfl rfl) tr tr ?_;refine a1a (a0t (j:=3) (as':=[(.I 1),(.I 2),(.I 7),(.I 8)]) rfl (fun _ => by decide) ⟨rfl,⟨rfl,⟨rfl,⟨rfl,tr⟩⟩⟩⟩ .r rfl rfl rfl) tr ?_ ?_
    ·refine a1a (a0t (j:=3) (as':=[(l9 R.1)]) rfl (fun _ => by decide) ⟨rfl,tr⟩ .r rfl rfl rfl) tr tr ?_;refine a1a (a0t (j:=4) (as':=[(.I 1),(.I 2),(.I 7),(.I 8)]) rfl (fun _ => by decide) ⟨rfl,⟨rfl,⟨rfl,⟨rfl,tr⟩⟩⟩⟩ .r rfl rfl rfl) tr tr ?_;refine x8 (a4i rfl rfl g12.1 g12.2 rfl rfl)<|x8 (a5l (enc:=encI) (v:=(.I P)) rfl rfl ex14 ⟨rfl,rfl⟩ rfl)<|o8 (.agg [(.str [95,117,117,105,100]),(.I P),(.own 3 0 1)]) rfl ⟨⟨rfl,nle,tr⟩,⟨⟨rfl,nle,tr⟩,⟨⟨rfl,nle,tr⟩,tr⟩⟩⟩ rfl<|a4h (a0e (v:=(.agg [(.str [95,117,117,105,100]),(.I P),(.own 3 0 1)])) (y':=(.agg [(.str [95,117,117,105,100]),(.I P),(.own 3 0 1)])) rfl rfl rfl tr ⟨rfl,nle⟩ ⟨⟨rfl,tr⟩,⟨⟨rfl,tr⟩,⟨⟨rfl,tr⟩,tr⟩⟩⟩ rfl) tr tr<|?_
     refine dk<|a0b<|?_;obtain rfl:=os hf;exact a3u [.frzC 1 2] [0] rfl ⟨nle,tr⟩ rfl .r .r
    ·refine x8 (a4i rfl rfl g12.1 g12.2 rfl rfl)<|x8 (a5l (enc:=encI) (v:=(.I P)) rfl rfl ex14 ⟨rfl,rfl⟩ rfl)<|?_;refine a1a (a0t (j:=4) (as':=[(l9 R.1)]) rfl (fun _ => by decide) ⟨rfl,tr⟩ .r rfl rfl rfl) (.inr ⟨(a4p (enc:=encI) (v:=(.I P)) rfl rfl ex14 ⟨rfl,rfl⟩ rfl),⟨(a4d rfl rfl g12.1 g12.2 rfl rfl),tr⟩⟩) tr ?_;refine o8 (.agg [(.str [95,117,117,105,100]),(.I P),(.own 4 0 1)]) rfl ⟨⟨rfl,nle,tr⟩,⟨⟨rfl,nle,tr⟩,⟨⟨rfl,nle,tr⟩,tr⟩⟩⟩ rfl<|a4h (a0e (v:=(.agg [(.str [95,117,117,105,100]),(.I P),(.own 4 0 1)])) (y':=(.agg [(.str [95,117,117,105,100]),(.I P),(.own 4 0 1)])) rfl rfl rfl tr ⟨rfl,nle⟩ ⟨⟨rfl,tr⟩,⟨⟨rfl,tr⟩,⟨⟨rfl,tr⟩,tr⟩⟩⟩ rfl) tr tr<|?_
     refine dk<|a0b<|?_;obtain rfl:=os hf;exact a3u [.frzC 1 2] [0] rfl ⟨nle,tr⟩ rfl .r .r
   ·refine x8 (a4i rfl rfl g12.1 g12.2 rfl rfl)<|x8 (a5l (enc:=encI) (v:=(.I P)) rfl rfl ex14 ⟨rfl,rfl⟩ rfl)<|?_;refine a1a (a0u (v:=(l9 R.1)) (h2:=[.box 3 (.agg [(.lst 1 (R.2.Code.map a0c)),(.I R.2.At),(.I R.2.Seed)]),.box 3 (.agg [(.str []),(.I 0),.nil]),.box 4 (.agg [(.str G.Name),(.lst 8 (G.Columns.map o5)),(.lst 1 (G.Unique.map encI)),(.bool G.Root)]),.row 1 ([(1:Int),(2:Int),(7:Int),(8:Int)].map encI)]) [] [0] (fun _ => rfl) (a2n _ _ _ er16) rfl .r .r rfl rfl) (.inr ⟨(a4p (enc:=encI) (v:=(.I P)) rfl rfl ex14 ⟨rfl,rfl⟩ rfl),⟨(a4d rfl rfl g12.1 g12.2 rfl rfl),tr⟩⟩) tr ?_
    refine a1a (a0t (j:=4) (as':=[(l9 R.1)]) rfl (fun _ => by decide) ⟨rfl,tr⟩ .r rfl rfl rfl) (.inr ⟨(a4p (enc:=encI) (v:=(.I P)) rfl rfl ex14 ⟨rfl,rfl⟩ rfl),⟨(a4d rfl rfl g12.1 g12.2 rfl rfl),tr⟩⟩) tr ?_;refine o8 (.agg [(.str [95,117,117,105,100]),(.I P),(.own 4 0 1)]) rfl ⟨⟨rfl,nle,tr⟩,⟨⟨rfl,nle,tr⟩,⟨⟨rfl,nle,tr⟩,tr⟩⟩⟩ rfl<|a4h (a0e (v:=(.agg [(.str [95,117,117,105,100]),(.I P),(.own 4 0 1)])) (y':=(.agg [(.str [95,117,117,105,100]),(.I P),(.own 4 0 1)])) rfl rfl rfl tr ⟨rfl,nle⟩ ⟨⟨rfl,tr⟩,⟨⟨rfl,tr⟩,⟨⟨rfl,tr⟩,tr⟩⟩⟩ rfl) tr tr<|?_
    refine dk<|a0b<|?_;obtain rfl:=os hf;exact a3u [.frzC 1 2] [0] rfl ⟨nle,tr⟩ rfl .r .r
  ·refine a1a (a0u (v:=(.I V.1)) (h2:=[.box 3 (.agg [(.lst 1 (V.2.Code.map a0c)),(.I V.2.At),(.I V.2.Seed)]),.box 3 (.agg [(.str []),(.I 0),.nil]),.box 4 (.agg [(.str G.Name),(.lst 8 (G.Columns.map o5)),(.lst 1 (G.Unique.map encI)),(.bool G.Root)]),.row 1 ([(1:Int),(2:Int),(7:Int),(8:Int)].map encI)]) [] [0] (fun _ => rfl) (a0p _ _ _ er11) rfl .r .r rfl rfl) tr tr ?_;refine x8 (a4i rfl rfl g12.1 g12.2 rfl rfl)<|x8 (a5l (enc:=encI) (v:=(.I P)) rfl rfl ex14 ⟨rfl,rfl⟩ rfl)<|?_;refine a1a (a0u (v:=(l9 R.1)) (h2:=[.box 3 (.agg [(.lst 1 (R.2.Code.map a0c)),(.I R.2.At),(.I R.2.Seed)]),.box 3 (.agg [(.str []),(.I 0),.nil]),.box 4 (.agg [(.str G.Name),(.lst 8 (G.Columns.map o5)),(.lst 1 (G.Unique.map encI)),(.bool G.Root)]),.row 1 ([(1:Int),(2:Int),(7:Int),(8:Int)].map encI)]) [] [0] (fun _ => rfl) (a2n _ _ _ er16) rfl .r .r rfl rfl) (.inr ⟨(a4p (enc:=encI) (v:=(.I P)) rfl rfl ex14 ⟨rfl,rfl⟩ rfl),⟨(a4d rfl rfl g12.1 g12.2 rfl rfl),tr⟩⟩) tr ?_
   refine a1a (a0t (j:=4) (as':=[(l9 R.1)]) rfl (fun _ => by decide) ⟨rfl,tr⟩ .r rfl rfl rfl) (.inr ⟨(a4p (enc:=encI) (v:=(.I P)) rfl rfl ex14 ⟨rfl,rfl⟩ rfl),⟨(a4d rfl rfl g12.1 g12.2 rfl rfl),tr⟩⟩) tr ?_;refine o8 (.agg [(.str [95,117,117,105,100]),(.I P),(.own 4 0 1)]) rfl ⟨⟨rfl,nle,tr⟩,⟨⟨rfl,nle,tr⟩,⟨⟨rfl,nle,tr⟩,tr⟩⟩⟩ rfl<|a4h (a0e (v:=(.agg [(.str [95,117,117,105,100]),(.I P),(.own 4 0 1)])) (y':=(.agg [(.str [95,117,117,105,100]),(.I P),(.own 4 0 1)])) rfl rfl rfl tr ⟨rfl,nle⟩ ⟨⟨rfl,tr⟩,⟨⟨rfl,tr⟩,⟨⟨rfl,tr⟩,tr⟩⟩⟩ rfl) tr tr<|?_
   refine dk<|a0b<|?_;obtain rfl:=os hf;exact a3u [.frzC 1 2] [0] rfl ⟨nle,tr⟩ rfl .r .r
 ·refine y9 rfl (bf c9)<|a0k<|a0m<|o7<|?_
  obtain ⟨p33,hb1,hf⟩:=ob hf
  refine a1k ([(0,(.ptr 0 0 0)),(4,(.ptr 1 0 0)),(6,(.ptr 2 0 0))],[.box 3 (.agg [(.lst 1 (p33.1.map a0c)),(.I p33.2.1),(.I p33.2.2.1)]),.box 3 (.agg [(.str []),(.I 0),.nil]),.box 8 (.agg [(.str p33.2.2.2.1),(.I p33.2.2.2.2.1),(.I p33.2.2.2.2.2.1),(.I p33.2.2.2.2.2.2.1),(.I p33.2.2.2.2.2.2.2.1),(.I p33.2.2.2.2.2.2.2.2.1),(.str p33.2.2.2.2.2.2.2.2.2.1),(.bool p33.2.2.2.2.2.2.2.2.2.2)])]) ?_ ?_
  ·refine a0r ?_
   obtain ⟨W,er36,hb1⟩:=ob hb1
   obtain ⟨E,ex38,hb1⟩:=ob hb1
   refine o8 (.ptr 2 0 1) rfl tr rfl<|o8 (.lst 8 (G.Columns.map o5)) rfl nle rfl<|l7 (.ptr 0 0 0) rfl<|o8 (.ptr 2 0 1) rfl tr rfl<|o8 (.lst 8 (G.Columns.map o5)) rfl nle rfl<|a1i (a1p (enc:=o5) rfl) fun hl34 => ?_;refine a1a (a0u (v:=(.I W.1)) (h2:=[.box 3 (.agg [(.lst 1 (W.2.Code.map a0c)),(.I W.2.At),(.I W.2.Seed)]),.box 3 (.agg [(.str []),(.I 0),.nil]),.box 4 (.agg [(.str G.Name),(.lst 8 (G.Columns.map o5)),(.lst 1 (G.Unique.map encI)),(.bool G.Root)])]) [] [0] (fun _ => rfl) (a0p _ _ _ er36) rfl .r .r rfl rfl) (.inr ⟨⟨nle,rfl⟩,⟨⟨tr,rfl⟩,tr⟩⟩) ?_ ?_
   ·refine a1a (a1j (j:=3) (c:=(.agg [(.str []),(.I 0),(.I 0),(.I 0),(.I 0),(.I 0),(.str []),(.bool false)])) rfl tr rfl rfl) (.inr ⟨(c4w (enc:=o5) rfl),⟨⟨nle,rfl⟩,⟨⟨tr,rfl⟩,⟨⟨nle,rfl⟩,⟨⟨tr,rfl⟩,tr⟩⟩⟩⟩⟩) tr ?_;refine a1a (a0u (v:=(.I W.1)) (h2:=[.box 3 (.agg [(.lst 1 (W.2.Code.map a0c)),(.I W.2.At),(.I W.2.Seed)]),.box 3 (.agg [(.str []),(.I 0),.nil]),.box 4 (.agg [(.str G.Name),(.lst 8 (G.Columns.map o5)),(.lst 1 (G.Unique.map encI)),(.bool G.Root)]),.box 8 (.agg [(.str []),(.I 0),(.I 0),(.I 0),(.I 0),(.I 0),(.str []),(.bool false)])]) [] [0] (fun _ => rfl) (a0p _ _ _ er36) rfl .r .r rfl rfl) (.inr ⟨⟨nle,rfl⟩,⟨⟨tr,rfl⟩,tr⟩⟩) tr ?_
    refine x8 (a2t (enc:=o5) rfl rfl (a8n ex38) (a8o ex38))<|o8 (o5 E) rfl nle rfl<|a4h (a0e (v:=(.agg [(.str E.Name),(.I E.Kind),(.I E.Min),(.I E.Max),(.I E.Low),(.I E.High),(.str E.Ref),(.bool E.Strong)])) (y':=(.agg [(.str E.Name),(.I E.Kind),(.I E.Min),(.I E.Max),(.I E.Low),(.I E.High),(.str E.Ref),(.bool E.Strong)])) rfl rfl rfl tr ⟨rfl,nle⟩ ⟨⟨rfl,tr⟩,⟨⟨rfl,tr⟩,⟨⟨rfl,tr⟩,⟨⟨rfl,tr⟩,⟨⟨rfl,tr⟩,⟨⟨rfl,tr⟩,⟨⟨rfl,tr⟩,⟨⟨rfl,tr⟩,tr⟩⟩⟩⟩⟩⟩⟩⟩ rfl) tr tr<|y5<|?_
    obtain rfl:=os hb1;exact ⟨[],[0,1,3],_,_,rfl,rfl,⟨.r,⟨.r,⟨.r,tr⟩⟩⟩,.r⟩
   ·refine x8 (a2t (enc:=o5) rfl rfl (a8n ex38) (a8o ex38))<|o8 (o5 E) rfl nle rfl<|a1a (a1j (j:=3) (c:=(.agg [(.str []),(.I 0),(.I 0),(.I 0),(.I 0),(.I 0),(.str []),(.bool false)])) rfl tr rfl rfl) (.inr ⟨⟨nle,rfl⟩,⟨(d1a (enc:=o5) rfl rfl (a8n ex38) (a8o ex38)),⟨(c4w (enc:=o5) rfl),⟨⟨nle,rfl⟩,⟨⟨tr,rfl⟩,⟨⟨nle,rfl⟩,⟨⟨tr,rfl⟩,tr⟩⟩⟩⟩⟩⟩⟩) tr<|a4h (a0e (v:=(.agg [(.str E.Name),(.I E.Kind),(.I E.Min),(.I E.Max),(.I E.Low),(.I E.High),(.str E.Ref),(.bool E.Strong)])) (y':=(.agg [(.str E.Name),(.I E.Kind),(.I E.Min),(.I E.Max),(.I E.Low),(.I E.High),(.str E.Ref),(.bool E.Strong)])) rfl rfl rfl tr ⟨rfl,nle⟩ ⟨⟨rfl,tr⟩,⟨⟨rfl,tr⟩,⟨⟨rfl,tr⟩,⟨⟨rfl,tr⟩,⟨⟨rfl,tr⟩,⟨⟨rfl,tr⟩,⟨⟨rfl,tr⟩,⟨⟨rfl,tr⟩,tr⟩⟩⟩⟩⟩⟩⟩⟩ rfl) tr tr<|?_
    refine y5 ?_;obtain rfl:=os hb1;exact ⟨[],[0,1,3],_,_,rfl,rfl,⟨.r,⟨.r,⟨.r,tr⟩⟩⟩,.r⟩
  ·obtain ⟨Av,Aw,Ax,A,F,H,J,K,L,M,N⟩:=p33
   refine o7 ?_
   obtain ⟨p51,hb1,hf⟩:=ob hf
   refine a1k ([(0,(.ptr 0 0 0)),(4,(.ptr 1 0 0)),(6,(.ptr 2 0 0)),(7,(.ptr 3 0 0))],[.box 3 (.agg [(.lst 1 (p51.1.map a0c)),(.I p51.2.1),(.I p51.2.2.1)]),.box 3 (.agg [(.str []),(.I 0),.nil]),.box 8 (.agg [(.str A),(.I F),(.I H),(.I J),(.I K),(.I L),(.str M),(.bool N)]),.box 3 (.agg [(.str A),(.I p51.2.2.2.1),(.lst 3 (p51.2.2.2.2.map l9))])]) ?_ ?_
   ·refine a0r ?_
    obtain ⟨O,er53,hb1⟩:=ob hb1
    obtain ⟨g54,hb1⟩:=og hb1
    obtain ⟨D,ex56,hb1⟩:=ob hb1
    obtain ⟨B,er58,hb1⟩:=ob hb1
    refine o8 (.ptr 2 0 0) rfl tr rfl<|o8 (.str A) rfl nle rfl<|l7 (.ptr 0 0 0) rfl<|l7 (.ptr 0 0 0) rfl<|o8 (.ptr 2 0 1) rfl tr rfl<|o8 (.I F) rfl nle rfl<|?_;refine a1a (a0t (j:=3) (as':=[(.I 1),(.I 2),(.I 7),(.I 8)]) rfl (fun _ => by decide) ⟨rfl,⟨rfl,⟨rfl,⟨rfl,tr⟩⟩⟩⟩ .r rfl rfl rfl) (.inr ⟨⟨nle,rfl⟩,⟨⟨tr,rfl⟩,⟨⟨nle,rfl⟩,⟨⟨tr,rfl⟩,tr⟩⟩⟩⟩) ?_ ?_
    ·refine a1a (a0u (v:=(.I O.1)) (h2:=[.box 3 (.agg [(.lst 1 (O.2.Code.map a0c)),(.I O.2.At),(.I O.2.Seed)]),.box 3 (.agg [(.str []),(.I 0),.nil]),.box 8 (.agg [(.str A),(.I F),(.I H),(.I J),(.I K),(.I L),(.str M),(.bool N)])]) [] [0] (fun _ => rfl) (a0p _ _ _ er53) rfl .r .r rfl rfl) (.inr ⟨⟨nle,rfl⟩,⟨⟨tr,rfl⟩,⟨⟨nle,rfl⟩,⟨⟨tr,rfl⟩,tr⟩⟩⟩⟩) ?_ ?_
     ·refine a1a (a1j (j:=3) (c:=(.agg [(.str []),(.I 0),.nil])) rfl tr rfl rfl) (.inr ⟨⟨nle,rfl⟩,⟨⟨tr,rfl⟩,⟨⟨nle,rfl⟩,⟨⟨tr,rfl⟩,tr⟩⟩⟩⟩) tr ?_;refine a1a (a0t (j:=4) (as':=[(.I 1),(.I 2),(.I 7),(.I 8)]) rfl (fun _ => by decide) ⟨rfl,⟨rfl,⟨rfl,⟨rfl,tr⟩⟩⟩⟩ .r rfl rfl rfl) (.inr ⟨⟨nle,rfl⟩,⟨⟨tr,rfl⟩,⟨⟨nle,rfl⟩,⟨⟨tr,rfl⟩,tr⟩⟩⟩⟩) ?_ ?_
      ·refine a1a (a0u (v:=(.I O.1)) (h2:=[.box 3 (.agg [(.lst 1 (O.2.Code.map a0c)),(.I O.2.At),(.I O.2.Seed)]),.box 3 (.agg [(.str []),(.I 0),.nil]),.box 8 (.agg [(.str A),(.I F),(.I H),(.I J),(.I K),(.I L),(.str M),(.bool N)]),.box 3 (.agg [(.str []),(.I 0),.nil])]) [] [0] (fun _ => rfl) (a0p _ _ _ er53) rfl .r .r rfl rfl) (.inr ⟨⟨nle,rfl⟩,⟨⟨tr,rfl⟩,⟨⟨nle,rfl⟩,⟨⟨tr,rfl⟩,tr⟩⟩⟩⟩) tr ?_;refine a1a (a0t (j:=4) (as':=[(.I 1),(.I 2),(.I 7),(.I 8)]) rfl (fun _ => by decide) ⟨rfl,⟨rfl,⟨rfl,⟨rfl,tr⟩⟩⟩⟩ .r rfl rfl rfl) (.inr ⟨⟨nle,rfl⟩,⟨⟨tr,rfl⟩,⟨⟨nle,rfl⟩,⟨⟨tr,rfl⟩,tr⟩⟩⟩⟩) ?_ ?_
       ·refine a1a (a0u (v:=(.lst 3 (B.1.map l9))) (h2:=[.box 3 (.agg [(.lst 1 (B.2.Code.map a0c)),(.I B.2.At),(.I B.2.Seed)]),.box 3 (.agg [(.str []),(.I 0),.nil]),.box 8 (.agg [(.str A),(.I F),(.I H),(.I J),(.I K),(.I L),(.str M),(.bool N)]),.box 3 (.agg [(.str []),(.I 0),.nil])]) [] [0] (fun _ => rfl) (a1s _ _ _ er58) rfl .r .r rfl rfl) (.inr ⟨⟨nle,rfl⟩,⟨⟨tr,rfl⟩,tr⟩⟩) tr ?_;refine a1a (a0t (j:=4) (as':=[(.I 1),(.I 2),(.I 7),(.I 8)]) rfl (fun _ => by decide) ⟨rfl,⟨rfl,⟨rfl,⟨rfl,tr⟩⟩⟩⟩ .r rfl rfl rfl) (.inr ⟨⟨nle,rfl⟩,⟨⟨tr,rfl⟩,⟨⟨nle,rfl⟩,⟨⟨tr,rfl⟩,tr⟩⟩⟩⟩) tr ?_
        refine x8 (a4i rfl rfl g54.1 g54.2 rfl rfl)<|x8 (a5l (enc:=encI) (v:=(.I D)) rfl rfl ex56 ⟨rfl,rfl⟩ rfl)<|o8 (.agg [(.str A),(.I D),(.lst 3 (B.1.map l9))]) rfl ⟨⟨rfl,nle,tr⟩,⟨⟨rfl,nle,tr⟩,⟨⟨rfl,nle,tr⟩,tr⟩⟩⟩ rfl<|a4h (a0e (v:=(.agg [(.str A),(.I D),(.lst 3 (B.1.map l9))])) (y':=(.agg [(.str A),(.I D),(.lst 3 (B.1.map l9))])) rfl rfl rfl tr ⟨rfl,nle⟩ ⟨⟨rfl,tr⟩,⟨⟨rfl,tr⟩,⟨⟨rfl,tr⟩,tr⟩⟩⟩ rfl) tr tr<|y5<|?_;obtain rfl:=os hb1;exact ⟨[],[0,1,2,3],_,_,rfl,rfl,⟨.r,⟨.r,⟨.r,⟨.r,tr⟩⟩⟩⟩,.r⟩
       ·refine x8 (a4i rfl rfl g54.1 g54.2 rfl rfl)<|x8 (a5l (enc:=encI) (v:=(.I D)) rfl rfl ex56 ⟨rfl,rfl⟩ rfl)<|?_;refine a1a (a0u (v:=(.lst 3 (B.1.map l9))) (h2:=[.box 3 (.agg [(.lst 1 (B.2.Code.map a0c)),(.I B.2.At),(.I B.2.Seed)]),.box 3 (.agg [(.str []),(.I 0),.nil]),.box 8 (.agg [(.str A),(.I F),(.I H),(.I J),(.I K),(.I L),(.str M),(.bool N)]),.box 3 (.agg [(.str []),(.I 0),.nil]),.row 1 ([(1:Int),(2:Int),(7:Int),(8:Int)].map encI)]) [] [0] (fun _ => rfl) (a1s _ _ _ er58) rfl .r .r rfl rfl) (.inr ⟨(a4p (enc:=encI) (v:=(.I D)) rfl rfl ex56 ⟨rfl,rfl⟩ rfl),⟨(a4d rfl rfl g54.1 g54.2 rfl rfl),⟨⟨nle,rfl⟩,⟨⟨tr,rfl⟩,tr⟩⟩⟩⟩) tr ?_
        refine o8 (.agg [(.str A),(.I D),(.lst 3 (B.1.map l9))]) rfl ⟨⟨rfl,nle,tr⟩,⟨⟨rfl,nle,tr⟩,⟨⟨rfl,nle,tr⟩,tr⟩⟩⟩ rfl<|a4h (a0e (v:=(.agg [(.str A),(.I D),(.lst 3 (B.1.map l9))])) (y':=(.agg [(.str A),(.I D),(.lst 3 (B.1.map l9))])) rfl rfl rfl tr ⟨rfl,nle⟩ ⟨⟨rfl,tr⟩,⟨⟨rfl,tr⟩,⟨⟨rfl,tr⟩,tr⟩⟩⟩ rfl) tr tr<|y5<|?_;obtain rfl:=os hb1;exact ⟨[],[0,1,2,3],_,_,rfl,rfl,⟨.r,⟨.r,⟨.r,⟨.r,tr⟩⟩⟩⟩,.r⟩
      ·refine a1a (a0u (v:=(.I O.1)) (h2:=[.box 3 (.agg [(.lst 1 (O.2.Code.map a0c)),(.I O.2.At),(.I O.2.Seed)]),.box 3 (.agg [(.str []),(.I 0),.nil]),.box 8 (.agg [(.str A),(.I F),(.I H),(.I J),(.I K),(.I L),(.str M),(.bool N)]),.box 3 (.agg [(.str []),(.I 0),.nil]),.row 1 ([(1:Int),(2:Int),(7:Int),(8:Int)].map encI)]) [] [0] (fun _ => rfl) (a0p _ _ _ er53) rfl .r .r rfl rfl) (.inr ⟨⟨nle,rfl⟩,⟨⟨tr,rfl⟩,⟨⟨nle,rfl⟩,⟨⟨tr,rfl⟩,tr⟩⟩⟩⟩) tr ?_;refine x8 (a4i rfl rfl g54.1 g54.2 rfl rfl)<|x8 (a5l (enc:=encI) (v:=(.I D)) rfl rfl ex56 ⟨rfl,rfl⟩ rfl)<|?_
       refine a1a (a0u (v:=(.lst 3 (B.1.map l9))) (h2:=[.box 3 (.agg [(.lst 1 (B.2.Code.map a0c)),(.I B.2.At),(.I B.2.Seed)]),.box 3 (.agg [(.str []),(.I 0),.nil]),.box 8 (.agg [(.str A),(.I F),(.I H),(.I J),(.I K),(.I L),(.str M),(.bool N)]),.box 3 (.agg [(.str []),(.I 0),.nil]),.row 1 ([(1:Int),(2:Int),(7:Int),(8:Int)].map encI)]) [] [0] (fun _ => rfl) (a1s _ _ _ er58) rfl .r .r rfl rfl) (.inr ⟨(a4p (enc:=encI) (v:=(.I D)) rfl rfl ex56 ⟨rfl,rfl⟩ rfl),⟨(a4d rfl rfl g54.1 g54.2 rfl rfl),⟨⟨nle,rfl⟩,⟨⟨tr,rfl⟩,tr⟩⟩⟩⟩) tr ?_
       refine o8 (.agg [(.str A),(.I D),(.lst 3 (B.1.map l9))]) rfl ⟨⟨rfl,nle,tr⟩,⟨⟨rfl,nle,tr⟩,⟨⟨rfl,nle,tr⟩,tr⟩⟩⟩ rfl<|a4h (a0e (v:=(.agg [(.str A),(.I D),(.lst 3 (B.1.map l9))])) (y':=(.agg [(.str A),(.I D),(.lst 3 (B.1.map l9))])) rfl rfl rfl tr ⟨rfl,nle⟩ ⟨⟨rfl,tr⟩,⟨⟨rfl,tr⟩,⟨⟨rfl,tr⟩,tr⟩⟩⟩ rfl) tr tr<|y5<|?_;obtain rfl:=os hb1;exact ⟨[],[0,1,2,3],_,_,rfl,rfl,⟨.r,⟨.r,⟨.r,⟨.r,tr⟩⟩⟩⟩,.r⟩
     ·refine a1a (a0t (j:=3) (as':=[(.I 1),(.I 2),(.I 7),(.I 8)]) rfl (fun _ => by decide) ⟨rfl,⟨rfl,⟨rfl,⟨rfl,tr⟩⟩⟩⟩ .r rfl rfl rfl) (.inr ⟨⟨nle,rfl⟩,⟨⟨tr,rfl⟩,⟨⟨nle,rfl⟩,⟨⟨tr,rfl⟩,tr⟩⟩⟩⟩) ?_ ?_
      ·refine a1a (a0u (v:=(.lst 3 (B.1.map l9))) (h2:=[.box 3 (.agg [(.lst 1 (B.2.Code.map a0c)),(.I B.2.At),(.I B.2.Seed)]),.box 3 (.agg [(.str []),(.I 0),.nil]),.box 8 (.agg [(.str A),(.I F),(.I H),(.I J),(.I K),(.I L),(.str M),(.bool N)])]) [] [0] (fun _ => rfl) (a1s _ _ _ er58) rfl .r .r rfl rfl) (.inr ⟨⟨nle,rfl⟩,⟨⟨tr,rfl⟩,tr⟩⟩) ?_ ?_
       ·refine a1a (a1j (j:=3) (c:=(.agg [(.str []),(.I 0),.nil])) rfl tr rfl rfl) (.inr ⟨⟨nle,rfl⟩,⟨⟨tr,rfl⟩,⟨⟨nle,rfl⟩,⟨⟨tr,rfl⟩,tr⟩⟩⟩⟩) tr ?_;refine a1a (a0t (j:=4) (as':=[(.I 1),(.I 2),(.I 7),(.I 8)]) rfl (fun _ => by decide) ⟨rfl,⟨rfl,⟨rfl,⟨rfl,tr⟩⟩⟩⟩ .r rfl rfl rfl) (.inr ⟨⟨nle,rfl⟩,⟨⟨tr,rfl⟩,⟨⟨nle,rfl⟩,⟨⟨tr,rfl⟩,tr⟩⟩⟩⟩) ?_ ?_
        ·refine a1a (a0u (v:=(.lst 3 (B.1.map l9))) (h2:=[.box 3 (.agg [(.lst 1 (B.2.Code.map a0c)),(.I B.2.At),(.I B.2.Seed)]),.box 3 (.agg [(.str []),(.I 0),.nil]),.box 8 (.agg [(.str A),(.I F),(.I H),(.I J),(.I K),(.I L),(.str M),(.bool N)]),.box 3 (.agg [(.str []),(.I 0),.nil])]) [] [0] (fun _ => rfl) (a1s _ _ _ er58) rfl .r .r rfl rfl) (.inr ⟨⟨nle,rfl⟩,⟨⟨tr,rfl⟩,tr⟩⟩) tr ?_;refine a1a (a0t (j:=4) (as':=[(.I 1),(.I 2),(.I 7),(.I 8)]) rfl (fun _ => by decide) ⟨rfl,⟨rfl,⟨rfl,⟨rfl,tr⟩⟩⟩⟩ .r rfl rfl rfl) (.inr ⟨⟨nle,rfl⟩,⟨⟨tr,rfl⟩,⟨⟨nle,rfl⟩,⟨⟨tr,rfl⟩,tr⟩⟩⟩⟩) tr ?_
         refine x8 (a4i rfl rfl g54.1 g54.2 rfl rfl)<|x8 (a5l (enc:=encI) (v:=(.I D)) rfl rfl ex56 ⟨rfl,rfl⟩ rfl)<|o8 (.agg [(.str A),(.I D),(.lst 3 (B.1.map l9))]) rfl ⟨⟨rfl,nle,tr⟩,⟨⟨rfl,nle,tr⟩,⟨⟨rfl,nle,tr⟩,tr⟩⟩⟩ rfl<|a4h (a0e (v:=(.agg [(.str A),(.I D),(.lst 3 (B.1.map l9))])) (y':=(.agg [(.str A),(.I D),(.lst 3 (B.1.map l9))])) rfl rfl rfl tr ⟨rfl,nle⟩ ⟨⟨rfl,tr⟩,⟨⟨rfl,tr⟩,⟨⟨rfl,tr⟩,tr⟩⟩⟩ rfl) tr tr<|y5<|?_;obtain rfl:=os hb1;exact ⟨[],[0,1,2,3],_,_,rfl,rfl,⟨.r,⟨.r,⟨.r,⟨.r,tr⟩⟩⟩⟩,.r⟩
        ·refine x8 (a4i rfl rfl g54.1 g54.2 rfl rfl)<|x8 (a5l (enc:=encI) (v:=(.I D)) rfl rfl ex56 ⟨rfl,rfl⟩ rfl)<|?_;refine a1a (a0u (v:=(.lst 3 (B.1.map l9))) (h2:=[.box 3 (.agg [(.lst 1 (B.2.Code.map a0c)),(.I B.2.At),(.I B.2.Seed)]),.box 3 (.agg [(.str []),(.I 0),.nil]),.box 8 (.agg [(.str A),(.I F),(.I H),(.I J),(.I K),(.I L),(.str M),(.bool N)]),.box 3 (.agg [(.str []),(.I 0),.nil]),.row 1 ([(1:Int),(2:Int),(7:Int),(8:Int)].map encI)]) [] [0] (fun _ => rfl) (a1s _ _ _ er58) rfl .r .r rfl rfl) (.inr ⟨(a4p (enc:=encI) (v:=(.I D)) rfl rfl ex56 ⟨rfl,rfl⟩ rfl),⟨(a4d rfl rfl g54.1 g54.2 rfl rfl),⟨⟨nle,rfl⟩,⟨⟨tr,rfl⟩,tr⟩⟩⟩⟩) tr ?_
         refine o8 (.agg [(.str A),(.I D),(.lst 3 (B.1.map l9))]) rfl ⟨⟨rfl,nle,tr⟩,⟨⟨rfl,nle,tr⟩,⟨⟨rfl,nle,tr⟩,tr⟩⟩⟩ rfl<|a4h (a0e (v:=(.agg [(.str A),(.I D),(.lst 3 (B.1.map l9))])) (y':=(.agg [(.str A),(.I D),(.lst 3 (B.1.map l9))])) rfl rfl rfl tr ⟨rfl,nle⟩ ⟨⟨rfl,tr⟩,⟨⟨rfl,tr⟩,⟨⟨rfl,tr⟩,tr⟩⟩⟩ rfl) tr tr<|y5<|?_;obtain rfl:=os hb1;exact ⟨[],[0,1,2,3],_,_,rfl,rfl,⟨.r,⟨.r,⟨.r,⟨.r,tr⟩⟩⟩⟩,.r⟩
       ·refine a1a (a0t (j:=3) (as':=[(.I 1),(.I 2),(.I 7),(.I 8)]) rfl (fun _ => by decide) ⟨rfl,⟨rfl,⟨rfl,⟨rfl,tr⟩⟩⟩⟩ .r rfl rfl rfl) (.inr ⟨⟨nle,rfl⟩,⟨⟨tr,rfl⟩,⟨⟨nle,rfl⟩,⟨⟨tr,rfl⟩,tr⟩⟩⟩⟩) ?_ ?_
        ·refine a1a (a1j (j:=3) (c:=(.agg [(.str []),(.I 0),.nil])) rfl tr rfl rfl) (.inr ⟨⟨nle,rfl⟩,⟨⟨tr,rfl⟩,⟨⟨nle,rfl⟩,⟨⟨tr,rfl⟩,tr⟩⟩⟩⟩) tr ?_;refine a1a (a0t (j:=4) (as':=[(.I 1),(.I 2),(.I 7),(.I 8)]) rfl (fun _ => by decide) ⟨rfl,⟨rfl,⟨rfl,⟨rfl,tr⟩⟩⟩⟩ .r rfl rfl rfl) (.inr ⟨⟨nle,rfl⟩,⟨⟨tr,rfl⟩,⟨⟨nle,rfl⟩,⟨⟨tr,rfl⟩,tr⟩⟩⟩⟩) tr ?_;refine x8 (a4i rfl rfl g54.1 g54.2 rfl rfl)<|x8 (a5l (enc:=encI) (v:=(.I D)) rfl rfl ex56 ⟨rfl,rfl⟩ rfl)<|o8 (.agg [(.str A),(.I D),(.lst 3 (B.1.map l9))]) rfl ⟨⟨rfl,nle,tr⟩,⟨⟨rfl,nle,tr⟩,⟨⟨rfl,nle,tr⟩,tr⟩⟩⟩ rfl<|?_
         refine a4h (a0e (v:=(.agg [(.str A),(.I D),(.lst 3 (B.1.map l9))])) (y':=(.agg [(.str A),(.I D),(.lst 3 (B.1.map l9))])) rfl rfl rfl tr ⟨rfl,nle⟩ ⟨⟨rfl,tr⟩,⟨⟨rfl,tr⟩,⟨⟨rfl,tr⟩,tr⟩⟩⟩ rfl) tr tr<|y5<|?_;obtain rfl:=os hb1;exact ⟨[],[0,1,2,3],_,_,rfl,rfl,⟨.r,⟨.r,⟨.r,⟨.r,tr⟩⟩⟩⟩,.r⟩
        ·refine x8 (a4i rfl rfl g54.1 g54.2 rfl rfl)<|x8 (a5l (enc:=encI) (v:=(.I D)) rfl rfl ex56 ⟨rfl,rfl⟩ rfl)<|o8 (.agg [(.str A),(.I D),(.lst 3 (B.1.map l9))]) rfl ⟨⟨rfl,nle,tr⟩,⟨⟨rfl,nle,tr⟩,⟨⟨rfl,nle,tr⟩,tr⟩⟩⟩ rfl<|a1a (a1j (j:=4) (c:=(.agg [(.str []),(.I 0),.nil])) rfl tr rfl rfl) (.inr ⟨⟨⟨⟨rfl,nle,tr⟩,⟨⟨rfl,nle,tr⟩,⟨⟨rfl,nle,tr⟩,tr⟩⟩⟩,rfl⟩,⟨(a4p (enc:=encI) (v:=(.I D)) rfl rfl ex56 ⟨rfl,rfl⟩ rfl),⟨(a4d rfl rfl g54.1 g54.2 rfl rfl),⟨⟨nle,rfl⟩,⟨⟨tr,rfl⟩,⟨⟨nle,rfl⟩,⟨⟨tr,rfl⟩,tr⟩⟩⟩⟩⟩⟩⟩) tr<|a4h (a0e (v:=(.agg [(.str A),(.I D),(.lst 3 (B.1.map l9))])) (y':=(.agg [(.str A),(.I D),(.lst 3 (B.1.map l9))])) rfl rfl rfl tr ⟨rfl,nle⟩ ⟨⟨rfl,tr⟩,⟨⟨rfl,tr⟩,⟨⟨rfl,tr⟩,tr⟩⟩⟩ rfl) tr tr<|?_
         refine y5 ?_;obtain rfl:=os hb1;exact ⟨[],[0,1,2,4],_,_,rfl,rfl,⟨.r,⟨.r,⟨.r,⟨.r,tr⟩⟩⟩⟩,.r⟩
      ·refine x8 (a4i rfl rfl g54.1 g54.2 rfl rfl)<|x8 (a5l (enc:=encI) (v:=(.I D)) rfl rfl ex56 ⟨rfl,rfl⟩ rfl)<|?_;refine a1a (a0u (v:=(.lst 3 (B.1.map l9))) (h2:=[.box 3 (.agg [(.lst 1 (B.2.Code.map a0c)),(.I B.2.At),(.I B.2.Seed)]),.box 3 (.agg [(.str []),(.I 0),.nil]),.box 8 (.agg [(.str A),(.I F),(.I H),(.I J),(.I K),(.I L),(.str M),(.bool N)]),.row 1 ([(1:Int),(2:Int),(7:Int),(8:Int)].map encI)]) [] [0] (fun _ => rfl) (a1s _ _ _ er58) rfl .r .r rfl rfl) (.inr ⟨(a4p (enc:=encI) (v:=(.I D)) rfl rfl ex56 ⟨rfl,rfl⟩ rfl),⟨(a4d rfl rfl g54.1 g54.2 rfl rfl),⟨⟨nle,rfl⟩,⟨⟨tr,rfl⟩,tr⟩⟩⟩⟩) ?_ ?_
       ·refine a1a (a1j (j:=4) (c:=(.agg [(.str []),(.I 0),.nil])) rfl tr rfl rfl) (.inr ⟨(a4p (enc:=encI) (v:=(.I D)) rfl rfl ex56 ⟨rfl,rfl⟩ rfl),⟨(a4d rfl rfl g54.1 g54.2 rfl rfl),⟨⟨nle,rfl⟩,⟨⟨tr,rfl⟩,⟨⟨nle,rfl⟩,⟨⟨tr,rfl⟩,tr⟩⟩⟩⟩⟩⟩) tr ?_;refine a1a (a0u (v:=(.lst 3 (B.1.map l9))) (h2:=[.box 3 (.agg [(.lst 1 (B.2.Code.map a0c)),(.I B.2.At),(.I B.2.Seed)]),.box 3 (.agg [(.str []),(.I 0),.nil]),.box 8 (.agg [(.str A),(.I F),(.I H),(.I J),(.I K),(.I L),(.str M),(.bool N)]),.row 1 ([(1:Int),(2:Int),(7:Int),(8:Int)].map encI),.box 3 (.agg [(.str []),(.I 0),.nil])]) [] [0] (fun _ => rfl) (a1s _ _ _ er58) rfl .r .r rfl rfl) (.inr ⟨(a4p (enc:=encI) (v:=(.I D)) rfl rfl ex56 ⟨rfl,rfl⟩ rfl),⟨(a4d rfl rfl g54.1 g54.2 rfl rfl),⟨⟨nle,rfl⟩,⟨⟨tr,rfl⟩,tr⟩⟩⟩⟩) tr ?_
        refine o8 (.agg [(.str A),(.I D),(.lst 3 (B.1.map l9))]) rfl ⟨⟨rfl,nle,tr⟩,⟨⟨rfl,nle,tr⟩,⟨⟨rfl,nle,tr⟩,tr⟩⟩⟩ rfl<|a4h (a0e (v:=(.agg [(.str A),(.I D),(.lst 3 (B.1.map l9))])) (y':=(.agg [(.str A),(.I D),(.lst 3 (B.1.map l9))])) rfl rfl rfl tr ⟨rfl,nle⟩ ⟨⟨rfl,tr⟩,⟨⟨rfl,tr⟩,⟨⟨rfl,tr⟩,tr⟩⟩⟩ rfl) tr tr<|y5<|?_;obtain rfl:=os hb1;exact ⟨[],[0,1,2,4],_,_,rfl,rfl,⟨.r,⟨.r,⟨.r,⟨.r,tr⟩⟩⟩⟩,.r⟩
       ·refine o8 (.agg [(.str A),(.I D),(.lst 3 (B.1.map l9))]) rfl ⟨⟨rfl,nle,tr⟩,⟨⟨rfl,nle,tr⟩,⟨⟨rfl,nle,tr⟩,tr⟩⟩⟩ rfl<|a1a (a1j (j:=4) (c:=(.agg [(.str []),(.I 0),.nil])) rfl tr rfl rfl) (.inr ⟨⟨⟨⟨rfl,nle,tr⟩,⟨⟨rfl,nle,tr⟩,⟨⟨rfl,nle,tr⟩,tr⟩⟩⟩,rfl⟩,⟨(a4p (enc:=encI) (v:=(.I D)) rfl rfl ex56 ⟨rfl,rfl⟩ rfl),⟨(a4d rfl rfl g54.1 g54.2 rfl rfl),⟨⟨nle,rfl⟩,⟨⟨tr,rfl⟩,⟨⟨nle,rfl⟩,⟨⟨tr,rfl⟩,tr⟩⟩⟩⟩⟩⟩⟩) tr<|a4h (a0e (v:=(.agg [(.str A),(.I D),(.lst 3 (B.1.map l9))])) (y':=(.agg [(.str A),(.I D),(.lst 3 (B.1.map l9))])) rfl rfl rfl tr ⟨rfl,nle⟩ ⟨⟨rfl,tr⟩,⟨⟨rfl,tr⟩,⟨⟨rfl,tr⟩,tr⟩⟩⟩ rfl) tr tr<|?_
        refine y5 ?_;obtain rfl:=os hb1;exact ⟨[],[0,1,2,4],_,_,rfl,rfl,⟨.r,⟨.r,⟨.r,⟨.r,tr⟩⟩⟩⟩,.r⟩
    ·refine a1a (a0u (v:=(.I O.1)) (h2:=[.box 3 (.agg [(.lst 1 (O.2.Code.map a0c)),(.I O.2.At),(.I O.2.Seed)]),.box 3 (.agg [(.str []),(.I 0),.nil]),.box 8 (.agg [(.str A),(.I F),(.I H),(.I J),(.I K),(.I L),(.str M),(.bool N)]),.row 1 ([(1:Int),(2:Int),(7:Int),(8:Int)].map encI)]) [] [0] (fun _ => rfl) (a0p _ _ _ er53) rfl .r .r rfl rfl) (.inr ⟨⟨nle,rfl⟩,⟨⟨tr,rfl⟩,⟨⟨nle,rfl⟩,⟨⟨tr,rfl⟩,tr⟩⟩⟩⟩) ?_ ?_
     ·refine a1a (a1j (j:=4) (c:=(.agg [(.str []),(.I 0),.nil])) rfl tr rfl rfl) (.inr ⟨⟨nle,rfl⟩,⟨⟨tr,rfl⟩,⟨⟨nle,rfl⟩,⟨⟨tr,rfl⟩,tr⟩⟩⟩⟩) tr ?_;refine a1a (a0u (v:=(.I O.1)) (h2:=[.box 3 (.agg [(.lst 1 (O.2.Code.map a0c)),(.I O.2.At),(.I O.2.Seed)]),.box 3 (.agg [(.str []),(.I 0),.nil]),.box 8 (.agg [(.str A),(.I F),(.I H),(.I J),(.I K),(.I L),(.str M),(.bool N)]),.row 1 ([(1:Int),(2:Int),(7:Int),(8:Int)].map encI),.box 3 (.agg [(.str []),(.I 0),.nil])]) [] [0] (fun _ => rfl) (a0p _ _ _ er53) rfl .r .r rfl rfl) (.inr ⟨⟨nle,rfl⟩,⟨⟨tr,rfl⟩,⟨⟨nle,rfl⟩,⟨⟨tr,rfl⟩,tr⟩⟩⟩⟩) tr ?_
      refine x8 (a4i rfl rfl g54.1 g54.2 rfl rfl)<|x8 (a5l (enc:=encI) (v:=(.I D)) rfl rfl ex56 ⟨rfl,rfl⟩ rfl)<|?_;refine a1a (a0u (v:=(.lst 3 (B.1.map l9))) (h2:=[.box 3 (.agg [(.lst 1 (B.2.Code.map a0c)),(.I B.2.At),(.I B.2.Seed)]),.box 3 (.agg [(.str []),(.I 0),.nil]),.box 8 (.agg [(.str A),(.I F),(.I H),(.I J),(.I K),(.I L),(.str M),(.bool N)]),.row 1 ([(1:Int),(2:Int),(7:Int),(8:Int)].map encI),.box 3 (.agg [(.str []),(.I 0),.nil])]) [] [0] (fun _ => rfl) (a1s _ _ _ er58) rfl .r .r rfl rfl) (.inr ⟨(a4p (enc:=encI) (v:=(.I D)) rfl rfl ex56 ⟨rfl,rfl⟩ rfl),⟨(a4d rfl rfl g54.1 g54.2 rfl rfl),⟨⟨nle,rfl⟩,⟨⟨tr,rfl⟩,tr⟩⟩⟩⟩) tr ?_
      refine o8 (.agg [(.str A),(.I D),(.lst 3 (B.1.map l9))]) rfl ⟨⟨rfl,nle,tr⟩,⟨⟨rfl,nle,tr⟩,⟨⟨rfl,nle,tr⟩,tr⟩⟩⟩ rfl<|a4h (a0e (v:=(.agg [(.str A),(.I D),(.lst 3 (B.1.map l9))])) (y':=(.agg [(.str A),(.I D),(.lst 3 (B.1.map l9))])) rfl rfl rfl tr ⟨rfl,nle⟩ ⟨⟨rfl,tr⟩,⟨⟨rfl,tr⟩,⟨⟨rfl,tr⟩,tr⟩⟩⟩ rfl) tr tr<|y5<|?_;obtain rfl:=os hb1;exact ⟨[],[0,1,2,4],_,_,rfl,rfl,⟨.r,⟨.r,⟨.r,⟨.r,tr⟩⟩⟩⟩,.r⟩
     ·refine x8 (a4i rfl rfl g54.1 g54.2 rfl rfl)<|x8 (a5l (enc:=encI) (v:=(.I D)) rfl rfl ex56 ⟨rfl,rfl⟩ rfl)<|?_;refine a1a (a0u (v:=(.lst 3 (B.1.map l9))) (h2:=[.box 3 (.agg [(.lst 1 (B.2.Code.map a0c)),(.I B.2.At),(.I B.2.Seed)]),.box 3 (.agg [(.str []),(.I 0),.nil]),.box 8 (.agg [(.str A),(.I F),(.I H),(.I J),(.I K),(.I L),(.str M),(.bool N)]),.row 1 ([(1:Int),(2:Int),(7:Int),(8:Int)].map encI)]) [] [0] (fun _ => rfl) (a1s _ _ _ er58) rfl .r .r rfl rfl) (.inr ⟨(a4p (enc:=encI) (v:=(.I D)) rfl rfl ex56 ⟨rfl,rfl⟩ rfl),⟨(a4d rfl rfl g54.1 g54.2 rfl rfl),⟨⟨nle,rfl⟩,⟨⟨tr,rfl⟩,tr⟩⟩⟩⟩) ?_ ?_
      ·refine a1a (a1j (j:=4) (c:=(.agg [(.str []),(.I 0),.nil])) rfl tr rfl rfl) (.inr ⟨(a4p (enc:=encI) (v:=(.I D)) rfl rfl ex56 ⟨rfl,rfl⟩ rfl),⟨(a4d rfl rfl g54.1 g54.2 rfl rfl),⟨⟨nle,rfl⟩,⟨⟨tr,rfl⟩,⟨⟨nle,rfl⟩,⟨⟨tr,rfl⟩,tr⟩⟩⟩⟩⟩⟩) tr ?_;refine a1a (a0u (v:=(.lst 3 (B.1.map l9))) (h2:=[.box 3 (.agg [(.lst 1 (B.2.Code.map a0c)),(.I B.2.At),(.I B.2.Seed)]),.box 3 (.agg [(.str []),(.I 0),.nil]),.box 8 (.agg [(.str A),(.I F),(.I H),(.I J),(.I K),(.I L),(.str M),(.bool N)]),.row 1 ([(1:Int),(2:Int),(7:Int),(8:Int)].map encI),.box 3 (.agg [(.str []),(.I 0),.nil])]) [] [0] (fun _ => rfl) (a1s _ _ _ er58) rfl .r .r rfl rfl) (.inr ⟨(a4p (enc:=encI) (v:=(.I D)) rfl rfl ex56 ⟨rfl,rfl⟩ rfl),⟨(a4d rfl rfl g54.1 g54.2 rfl rfl),⟨⟨nle,rfl⟩,⟨⟨tr,rfl⟩,tr⟩⟩⟩⟩) tr ?_
       refine o8 (.agg [(.str A),(.I D),(.lst 3 (B.1.map l9))]) rfl ⟨⟨rfl,nle,tr⟩,⟨⟨rfl,nle,tr⟩,⟨⟨rfl,nle,tr⟩,tr⟩⟩⟩ rfl<|a4h (a0e (v:=(.agg [(.str A),(.I D),(.lst 3 (B.1.map l9))])) (y':=(.agg [(.str A),(.I D),(.lst 3 (B.1.map l9))])) rfl rfl rfl tr ⟨rfl,nle⟩ ⟨⟨rfl,tr⟩,⟨⟨rfl,tr⟩,⟨⟨rfl,tr⟩,tr⟩⟩⟩ rfl) tr tr<|y5<|?_;obtain rfl:=os hb1;exact ⟨[],[0,1,2,4],_,_,rfl,rfl,⟨.r,⟨.r,⟨.r,⟨.r,tr⟩⟩⟩⟩,.r⟩
      ·refine o8 (.agg [(.str A),(.I D),(.lst 3 (B.1.map l9))]) rfl ⟨⟨rfl,nle,tr⟩,⟨⟨rfl,nle,tr⟩,⟨⟨rfl,nle,tr⟩,tr⟩⟩⟩ rfl<|a1a (a1j (j:=4) (c:=(.agg [(.str []),(.I 0),.nil])) rfl tr rfl rfl) (.inr ⟨⟨⟨⟨rfl,nle,tr⟩,⟨⟨rfl,nle,tr⟩,⟨⟨rfl,nle,tr⟩,tr⟩⟩⟩,rfl⟩,⟨(a4p (enc:=encI) (v:=(.I D)) rfl rfl ex56 ⟨rfl,rfl⟩ rfl),⟨(a4d rfl rfl g54.1 g54.2 rfl rfl),⟨⟨nle,rfl⟩,⟨⟨tr,rfl⟩,⟨⟨nle,rfl⟩,⟨⟨tr,rfl⟩,tr⟩⟩⟩⟩⟩⟩⟩) tr<|a4h (a0e (v:=(.agg [(.str A),(.I D),(.lst 3 (B.1.map l9))])) (y':=(.agg [(.str A),(.I D),(.lst 3 (B.1.map l9))])) rfl rfl rfl tr ⟨rfl,nle⟩ ⟨⟨rfl,tr⟩,⟨⟨rfl,tr⟩,⟨⟨rfl,tr⟩,tr⟩⟩⟩ rfl) tr tr<|?_
       refine y5 ?_;obtain rfl:=os hb1;exact ⟨[],[0,1,2,4],_,_,rfl,rfl,⟨.r,⟨.r,⟨.r,⟨.r,tr⟩⟩⟩⟩,.r⟩
   ·obtain ⟨An,Ao,Ap,Ai,Ad⟩:=p51
    refine o7 ?_
    obtain ⟨p77,hb1,hf⟩:=ob hf
    refine a1k ([(0,(.ptr 0 0 0)),(4,(.ptr 1 0 0)),(6,(.ptr 2 0 0)),(7,(.ptr 3 0 0))],[.box 3 (.agg [(.lst 1 (p77.1.map a0c)),(.I p77.2.1),(.I p77.2.2.1)]),.box 3 (.agg [(.str []),(.I 0),.nil]),.box 8 (.agg [(.str A),(.I F),(.I H),(.I J),(.I K),(.I L),(.str M),(.bool N)]),.box 3 (.agg [(.str A),(.I p77.2.2.2),(.lst 3 (Ad.map l9))])]) ?_ ?_
    ·refine o7 ?_
     obtain ⟨p85,hb2,hb1⟩:=ob hb1
     refine a1k ([(0,(.ptr 0 0 0)),(4,(.ptr 1 0 0)),(6,(.ptr 2 0 0)),(7,(.ptr 3 0 0)),(51,(.bool p85.1))],[.box 3 (.agg [(.lst 1 (p85.2.1.map a0c)),(.I p85.2.2.1),(.I p85.2.2.2)]),.box 3 (.agg [(.str []),(.I 0),.nil]),.box 8 (.agg [(.str A),(.I F),(.I H),(.I J),(.I K),(.I L),(.str M),(.bool N)]),.box 3 (.agg [(.str A),(.I Ai),(.lst 3 (Ad.map l9))])]) ?_ ?_
     ·refine a0r ?_
      rcases oi hb2 with ⟨c86,hb2⟩ | ⟨c86,hb2⟩
      ·obtain ⟨Ac,er88,hb2⟩:=ob hb2
       refine o8 (.ptr 2 0 1) rfl tr rfl<|o8 (.I F) rfl nle rfl<|o8 (.bool (F == 1)) rfl rfl rfl<|l7 (.bool (F == 1)) rfl<|a0i (s:=48) (b:=true) rfl c86<|s_on rfl<|l7 (.ptr 0 0 0) rfl<|s_on rfl<|?_;refine x8 (a0u (v:=(.bool Ac.1)) (h2:=[.box 3 (.agg [(.lst 1 (Ac.2.Code.map a0c)),(.I Ac.2.At),(.I Ac.2.Seed)]),.box 3 (.agg [(.str []),(.I 0),.nil]),.box 8 (.agg [(.str A),(.I F),(.I H),(.I J),(.I K),(.I L),(.str M),(.bool N)]),.box 3 (.agg [(.str A),(.I Ai),(.lst 3 (Ad.map l9))])]) [] [0] (fun _ => rfl) (a1w _ _ _ er88) rfl .r .r rfl rfl) ?_
       refine o8 (.bool Ac.1) rfl tr rfl<|y5<|?_;obtain rfl:=os hb2;exact ⟨[],[0,1,2,3],_,_,rfl,rfl,⟨.r,⟨.r,⟨.r,⟨.r,⟨.r,tr⟩⟩⟩⟩⟩,.r⟩
      ·refine o8 (.ptr 2 0 1) rfl tr rfl<|o8 (.I F) rfl nle rfl<|o8 (.bool (F == 1)) rfl rfl rfl<|l7 (.bool (F == 1)) rfl<|a0i (s:=48) (b:=false) rfl (bf c86)<|o6 rfl rfl<|o6 rfl rfl<|o8 (.bool false) rfl tr rfl<|y5<|?_;obtain rfl:=os hb2;exact ⟨[],[0,1,2,3],_,_,rfl,rfl,⟨.r,⟨.r,⟨.r,⟨.r,⟨.r,tr⟩⟩⟩⟩⟩,.r⟩
     ·obtain ⟨Am,Aq,Ar,As⟩:=p85
      rcases oi hb1 with ⟨c89,hb1⟩ | ⟨c89,hb1⟩
      ·refine y8 rfl c89<|a0r<|?_
       obtain ⟨Z,er91,hb1⟩:=ob hb1
       refine l7 (.ptr 0 0 0) rfl ?_;refine x8 (a0u (v:=(.I Z.1)) (h2:=[.box 3 (.agg [(.lst 1 (Z.2.Code.map a0c)),(.I Z.2.At),(.I Z.2.Seed)]),.box 3 (.agg [(.str []),(.I 0),.nil]),.box 8 (.agg [(.str A),(.I F),(.I H),(.I J),(.I K),(.I L),(.str M),(.bool N)]),.box 3 (.agg [(.str A),(.I Ai),(.lst 3 (Ad.map l9))])]) [] [0] (fun _ => rfl) (a0p _ _ _ er91) rfl .r .r rfl rfl) ?_;refine o8 (.I (w64 (3 + Z.1))) rfl rfl rfl<|o8 (.ptr 3 0 1) rfl tr rfl<|a3o (a0e (v:=(.I (w64 (3 + Z.1)))) (y':=(.agg [(.str A),(.I (w64 (3 + Z.1))),(.lst 3 (Ad.map l9))])) rfl rfl rfl tr ⟨rfl,nle⟩ ⟨⟨rfl,tr⟩,tr⟩ rfl)<|?_
       refine y5 ?_;obtain rfl:=os hb1;exact ⟨[],[0,1,2,3],_,_,rfl,rfl,⟨.r,⟨.r,⟨.r,⟨.r,tr⟩⟩⟩⟩,.r⟩
      ·refine y9 rfl (bf c89)<|a0k<|?_;obtain rfl:=os hb1;exact ⟨[],[0,1,2,3],_,_,rfl,rfl,⟨.r,⟨.r,⟨.r,⟨.r,tr⟩⟩⟩⟩,.r⟩
    ·obtain ⟨Ay,Az,A0,S⟩:=p77
     refine o7 ?_
     obtain ⟨p101,hb1,hf⟩:=ob hf
     refine a1k ([(0,(.ptr 0 0 0)),(4,(.ptr 1 0 0)),(6,(.ptr 2 0 0)),(7,(.ptr 3 0 0))],[.box 3 (.agg [(.lst 1 (p101.1.map a0c)),(.I p101.2.1),(.I p101.2.2.1)]),.box 3 (.agg [(.str []),(.I 0),.nil]),.box 8 (.agg [(.str A),(.I F),(.I H),(.I J),(.I K),(.I L),(.str M),(.bool N)]),.box 3 (.agg [(.str A),(.I S),(.lst 3 (p101.2.2.2.map l9))])]) ?_ ?_
     ·refine sr<|?_
      obtain ⟨Y,er103,hb1⟩:=ob hb1
      refine l7 (.ptr 0 0 0) rfl ?_;refine x8 (a0u (v:=(.bool Y.1)) (h2:=[.box 3 (.agg [(.lst 1 (Y.2.Code.map a0c)),(.I Y.2.At),(.I Y.2.Seed)]),.box 3 (.agg [(.str []),(.I 0),.nil]),.box 8 (.agg [(.str A),(.I F),(.I H),(.I J),(.I K),(.I L),(.str M),(.bool N)]),.box 3 (.agg [(.str A),(.I S),(.lst 3 (Ad.map l9))])]) [] [0] (fun _ => rfl) (a1w _ _ _ er103) rfl .r .r rfl rfl) ?_;refine dk<|?_
      rcases oi hb1 with ⟨d5c,hb1⟩ | ⟨d5c,hb1⟩
      ·refine y8 rfl d5c<|a0r<|?_
       obtain ⟨T,er106,hb1⟩:=ob hb1
       refine l7 (.ptr 0 0 0) rfl<|o8 (.ptr 2 0 1) rfl tr rfl<|o8 (.I F) rfl nle rfl<|?_;refine x8 (a0u (v:=(l9 T.1)) (h2:=[.box 3 (.agg [(.lst 1 (T.2.Code.map a0c)),(.I T.2.At),(.I T.2.Seed)]),.box 3 (.agg [(.str []),(.I 0),.nil]),.box 8 (.agg [(.str A),(.I F),(.I H),(.I J),(.I K),(.I L),(.str M),(.bool N)]),.box 3 (.agg [(.str A),(.I S),(.lst 3 (Ad.map l9))])]) [] [0] (fun _ => rfl) (a2n _ _ _ er106) rfl .r .r rfl rfl) ?_;refine x8 (a0t (j:=4) (as':=[(l9 T.1)]) rfl (fun _ => by decide) ⟨rfl,tr⟩ .r rfl rfl rfl) ?_
       refine o8 (.ptr 3 0 2) rfl tr rfl<|a3o (a0e (v:=(.own 4 0 1)) (y':=(.agg [(.str A),(.I S),(.own 4 0 1)])) rfl rfl rfl tr ⟨rfl,nle⟩ ⟨⟨rfl,tr⟩,tr⟩ rfl)<|y5<|?_;obtain rfl:=os hb1;exact ⟨[.frzC 3 2],[0,1,2,3],_,_,rfl,rfl,⟨.r,⟨.r,⟨.r,⟨.r,tr⟩⟩⟩⟩,(.cons .r (.cons .r (.cons .r (.cons (.box (.agg (.cons .r (.cons .r (.cons (.of_eq (congrArg (AV.lst _) (tko [T.1]))) .nil))))) .nil))))⟩
      ·refine y9 rfl (bf d5c)<|a0k<|?_;obtain rfl:=os hb1;exact ⟨[],[0,1,2,3],_,_,rfl,rfl,⟨.r,⟨.r,⟨.r,⟨.r,tr⟩⟩⟩⟩,.r⟩
     ·obtain ⟨Aj,Ak,Al,U⟩:=p101
      refine o7<|o7<|?_
      obtain ⟨Af,hb1,hf⟩:=ob hf
      refine a1k ([(0,(.ptr 0 0 0)),(4,(.ptr 1 0 0)),(6,(.ptr 2 0 0)),(7,(.ptr 3 0 0)),(72,(.bool Af))],[.box 3 (.agg [(.lst 1 (Aj.map a0c)),(.I Ak),(.I Al)]),.box 3 (.agg [(.str []),(.I 0),.nil]),.box 8 (.agg [(.str A),(.I F),(.I H),(.I J),(.I K),(.I L),(.str M),(.bool N)]),.box 3 (.agg [(.str A),(.I S),(.lst 3 (U.map l9))])]) ?_ ?_
      ·refine a0r ?_
       obtain ⟨Ah,er114,hb1⟩:=ob hb1
       rcases oi hb1 with ⟨c6j,hb1⟩ | ⟨c6j,hb1⟩
       ·refine o8 (.ptr 3 0 1) rfl tr rfl<|o8 (.I S) rfl nle rfl<|x8 (a0j (a2f _ _ _ _ er114) rfl .r rfl)<|l7 (.bool Ah) rfl<|a0i (s:=67) (b:=true) rfl c6j<|s_on rfl<|o8 (.ptr 3 0 2) rfl tr rfl<|s_on rfl<|o8 (.lst 3 (U.map l9)) rfl nle rfl<|s_on rfl<|a1i (a1p (enc:=l9) rfl) fun hl116 => s_on rfl<|o8 (.bool ((U.length:Int) != 1)) rfl rfl rfl<|o8 (.bool ((U.length:Int) != 1)) rfl tr rfl<|y5<|?_;obtain rfl:=os hb1;exact ⟨[],[0,1,2,3],_,_,rfl,rfl,⟨.r,⟨.r,⟨.r,⟨.r,⟨.r,tr⟩⟩⟩⟩⟩,.r⟩
       ·refine o8 (.ptr 3 0 1) rfl tr rfl<|o8 (.I S) rfl nle rfl<|x8 (a0j (a2f _ _ _ _ er114) rfl .r rfl)<|l7 (.bool Ah) rfl<|a0i (s:=67) (b:=false) rfl (bf c6j)<|o6 rfl rfl<|o6 rfl rfl<|o6 rfl rfl<|o6 rfl rfl<|o8 (.bool false) rfl tr rfl<|y5<|?_;obtain rfl:=os hb1;exact ⟨[],[0,1,2,3],_,_,rfl,rfl,⟨.r,⟨.r,⟨.r,⟨.r,⟨.r,tr⟩⟩⟩⟩⟩,.r⟩
      ·rcases oi hf with ⟨c117,hf⟩ | ⟨c117,hf⟩
       ·refine y8 rfl c117<|a0r<|?_
        obtain ⟨Ab,er119,hf⟩:=ob hf
        refine l7 (.ptr 0 0 0) rfl<|o8 (.ptr 2 0 1) rfl tr rfl<|o8 (.I F) rfl nle rfl<|?_;refine x8 (a0u (v:=(l9 Ab.1)) (h2:=[.box 3 (.agg [(.lst 1 (Ab.2.Code.map a0c)),(.I Ab.2.At),(.I Ab.2.Seed)]),.box 3 (.agg [(.str []),(.I 0),.nil]),.box 8 (.agg [(.str A),(.I F),(.I H),(.I J),(.I K),(.I L),(.str M),(.bool N)]),.box 3 (.agg [(.str A),(.I S),(.lst 3 (U.map l9))])]) [] [0] (fun _ => rfl) (a2n _ _ _ er119) rfl .r .r rfl rfl) ?_;refine x8 (a0t (j:=4) (as':=[(l9 Ab.1)]) rfl (fun _ => by decide) ⟨rfl,tr⟩ .r rfl rfl rfl) ?_
        refine o8 (.ptr 3 0 2) rfl tr rfl<|a3o (a0e (v:=(.own 4 0 1)) (y':=(.agg [(.str A),(.I S),(.own 4 0 1)])) rfl rfl rfl tr ⟨rfl,nle⟩ ⟨⟨rfl,tr⟩,tr⟩ rfl)<|dk<|sr<|o8 (.agg [(.str A),(.I S),(.own 4 0 1)]) rfl nle rfl<|a3o (a0e (v:=(.agg [(.str A),(.I S),(.own 4 0 1)])) (y':=(.agg [(.str A),(.I S),(.own 4 0 1)])) rfl rfl rfl tr ⟨rfl,nle⟩ ⟨⟨rfl,tr⟩,⟨⟨rfl,tr⟩,⟨⟨rfl,tr⟩,tr⟩⟩⟩ rfl)<|dk<|a0b<|?_;obtain rfl:=os hf;exact a3u [.frzC 1 2] [0] rfl ⟨nle,tr⟩ rfl .r .r
       ·refine y9 rfl (bf c117)<|a0k<|a0m<|sr<|o8 (.agg [(.str A),(.I S),(.lst 3 (U.map l9))]) rfl nle rfl<|a3o (a0e (v:=(.agg [(.str A),(.I S),(.lst 3 (U.map l9))])) (y':=(.agg [(.str A),(.I S),(.lst 3 (U.map l9))])) rfl rfl rfl tr ⟨rfl,nle⟩ ⟨⟨rfl,tr⟩,⟨⟨rfl,tr⟩,⟨⟨rfl,tr⟩,tr⟩⟩⟩ rfl)<|dk<|a0b<|?_;obtain rfl:=os hf;exact a3u [] [0] rfl ⟨nle,tr⟩ rfl .r .r

/- (*spec.l00Src).conds -/
def d3u:a0s :=
 (.seq (.reg (tm 4 (.c .nil) .done))
 (.seq (.reg (tq 7 (.bslice 3 []) (tm 5 (.t 7) .done)))
 (.seq (.seq (.reg (tm 8 (.t 0) (tq 9 (.call 123 [(.t 8),(.c (.int .i64 3))]) (tm 6 (.t 9) .done))))
 (.block 0 (.loop (.seq (.seq (.reg (tm 10 (.t 6) (tq 11 (.bin .gtr (.t 10) (.c (.int .i64 0))) .done)))
 (.cond (.t 11) .skip
 (.exit 0)))
 (.seq (.block 1 (.reg (tm 14 (.t 5) (tm 15 (.t 0) (tm 16 (.t 1) (tq 17 (.call 408 [(.t 15),(.t 16)]) (tq 18 (.bslice 3 [(.t 17)]) (tq 19 (.append 3 48 (.t 14) (.t 18)) (tm 5 (.t 19) .done)))))))))
 (.reg (tm 12 (.t 6) (tq 13 (.bin .sub (.t 12) (.c (.int .i64 1))) (tm 6 (.t 13) .done)))))))))
 (.cut (.seq (.reg (tm 20 (.t 5) (tm 4 (.t 20) .done)))
 .ret)))))
theorem d8h:a1e Tryz.prog Tryz.f335 = some (d3u.erase,[.mov (.t 4)],21):=by kernel_rfl
def a4c (A:Int):Nat → Int → (List Int) → Int → Int → (List a2v) → Option ((List Int) × Int × Int × (List a2v))
  | 0,_,_,_,_,_ => none
  | k + 1,E,J,K,M,B =>
    if (decide (E > 0)) then
    (a9b A (⟨J,K,M⟩:a0h)).bind fun D =>
    if (B ++ [D.1]).length ≤ 2 ^ 30 then
    a4c A k (w64 (E - 1)) D.2.Code D.2.At D.2.Seed (B ++ [D.1])
    else none
    else
    some (J,K,M,B)

def a7l (A:Int) (G:a0h):Option ((List a2v) × a0h) :=
    (a0z 3 G).bind fun F =>
    (a4c A FUEL F.1 F.2.Code F.2.At F.2.Seed []).bind fun p31 =>
    (match p31 with
    | (N,O,P,H) =>
    some (H,(⟨N,O,P⟩:a0h)))
theorem b8o (A:Int) (G:a0h) (r:((List a2v) × a0h)) (hf:a7l A G = some r):a1u Tryz.prog false 335 [(.ptr 0 0 0),(.I A)] [.box 3 (.agg [(.lst 1 (G.Code.map a0c)),(.I G.At),(.I G.Seed)])] (.own 1 0 r.1.length) [.box 3 (.agg [(.lst 1 (r.2.Code.map a0c)),(.I r.2.At),(.I r.2.Seed)]),.row 3 (r.1.map a0d)]:=by
 refine a1u.of_awp mixed Tryz.func335 d8h nle ?_;rw [a0n];unfold a7l at hf;unfold d3u;refine (show awp Tryz.prog false 1 _ (ofL [(0,(.ptr 0 0 0)),(1,(.I A))]) [.box 3 (.agg [(.lst 1 (G.Code.map a0c)),(.I G.At),(.I G.Seed)])] _ from ?_);refine sr<|l7 .nil rfl<|dk<|sr<|?_;refine x8 (a0t (j:=1) (as':=[]) rfl (fun _ => by decide) tr .r rfl rfl rfl) ?_;refine l7 (.own 1 0 0) rfl<|dk<|o7<|sr<|?_
 obtain ⟨F,er4,hf⟩:=ob hf
 refine l7 (.ptr 0 0 0) rfl ?_;refine x8 (a0u (v:=(.I F.1)) (h2:=[.box 3 (.agg [(.lst 1 (F.2.Code.map a0c)),(.I F.2.At),(.I F.2.Seed)]),.row 3 ([].map a0d)]) [] [0] (fun _ => rfl) (a0p _ _ _ er4) rfl .r .r rfl rfl) ?_;refine l7 (.I F.1) rfl<|dk<|?_
 obtain ⟨p31,hb1,hf⟩:=ob hf
 refine a1k ([(5,(.own 1 0 p31.2.2.2.length))],[.box 3 (.agg [(.lst 1 (p31.1.map a0c)),(.I p31.2.1),(.I p31.2.2.1)]),.row 3 (p31.2.2.2.map a0d)]) ?_ ?_
 ·refine a1v (X:={q:(Nat × Int × (List Int) × Int × Int × (List a2v)) // a4c A q.1 q.2.1 q.2.2.1 q.2.2.2.1 q.2.2.2.2.1 q.2.2.2.2.2 = some p31}) (fun q => ([(0,(.ptr 0 0 0)),(1,(.I A)),(5,(.own 1 0 q.1.2.2.2.2.2.length)),(6,(.I q.1.2.1))],[.box 3 (.agg [(.lst 1 (q.1.2.2.1.map a0c)),(.I q.1.2.2.2.1),(.I q.1.2.2.2.2.1)]),.row 3 (q.1.2.2.2.2.2.map a0d)])) (fun q => q.1.1) ⟨(FUEL,F.1,F.2.Code,F.2.At,F.2.Seed,[]),hb1⟩ ⟨[],[0,1],_,_,rfl,rfl,⟨.r,⟨.r,⟨.of_eq (congrArg (AV.own _ 0) (by simp)),⟨.r,tr⟩⟩⟩⟩,.r⟩ ?_
  rintro ⟨⟨k,E,J,K,M,B⟩,hc1⟩
  have hc1:a4c A k E J K M B = some p31:=hc1
  refine (show awp Tryz.prog false 1 _ (ofL [(0,(.ptr 0 0 0)),(1,(.I A)),(5,(.own 1 0 B.length)),(6,(.I E))]) [.box 3 (.agg [(.lst 1 (J.map a0c)),(.I K),(.I M)]),.row 3 (B.map a0d)] _ from ?_)
  rcases k with _ | k
  ·rw [a4c.eq_1] at hc1
   cases hc1
  ·rw [a4c.eq_2] at hc1;refine o7<|sr<|l7 (.I E) rfl<|o8 (.bool (decide (E > 0))) rfl rfl rfl<|dk<|?_
   rcases oi hc1 with ⟨c32,hc1⟩ | ⟨c32,hc1⟩
   ·refine y8 rfl c32<|a0k<|a0m<|o7<|a3y<|a0r<|?_
    obtain ⟨D,er34,hc1⟩:=ob hc1
    obtain ⟨g35,hc1⟩:=og hc1
    refine l7 (.own 1 0 B.length) rfl<|l7 (.ptr 0 0 0) rfl<|l7 (.I A) rfl<|?_;refine x8 (a0u (v:=(a0d D.1)) (h2:=[.box 3 (.agg [(.lst 1 (D.2.Code.map a0c)),(.I D.2.At),(.I D.2.Seed)]),.row 3 (B.map a0d)]) [] [0] (fun _ => rfl) (b9u _ _ _ er34) rfl .r .r rfl rfl) ?_;refine x8 (a0t (j:=2) (as':=[(a0d D.1)]) rfl (fun _ => by decide) ⟨rfl,tr⟩ .r rfl rfl rfl) ?_
    refine x8 (a5m (j:=3) (L:=((B ++ [D.1]).map a0d)) (len:=(B ++ [D.1]).length) rfl rfl (c6g (enc:=a0d) B [D.1] _ (by rfl)) (by simp <;> omega) g35 rfl rfl) ?_
    refine l7 (.own 3 0 ((B ++ [D.1]).length)) rfl<|y5<|a2y<|a0m<|a0r<|l7 (.I E) rfl<|o8 (.I (w64 (E - 1))) rfl rfl rfl<|l7 (.I (w64 (E - 1))) rfl<|y5<|?_;exact a1z ⟨(k,w64 (E - 1),D.2.Code,D.2.At,D.2.Seed,B ++ [D.1]),hc1⟩ (Nat.lt_succ_self _) ⟨[],[0,3],_,_,rfl,rfl,⟨.r,⟨.r,⟨.r,⟨.r,tr⟩⟩⟩⟩,.r⟩
   ·refine y9 rfl (bf c32)<|a3i<|a3h<|a2e<|a3g<|?_;obtain rfl:=os hc1;exact ⟨[],[0,1],_,_,rfl,rfl,⟨.r,tr⟩,.r⟩
 ·obtain ⟨N,O,P,H⟩:=p31
  refine sr<|l7 (.own 1 0 H.length) rfl<|l7 (.own 1 0 H.length) rfl<|dk<|a0b<|?_;obtain rfl:=os hf;exact a3u [] [0,1] rfl ⟨tr,tr⟩ rfl .r .r

/- (*spec.l00Src).mut -/
def d3v:a0s :=
 (.seq (.reg (tq 4 (.box 3 (.c (.agg [(.str []),(.int .i64 0),.nil]))) .done))
 (.seq (.reg (tq 8 (.call 25 []) (tq 9 (.field 0 1 false (.t 8)) (tm 10 (.t 1) (tq 11 (.iaddr 4 (.t 9) (.t 10)) (tq 12 (.load 4 true (.t 11)) (tq 5 (.box 4 (.c (.agg [(.str []),.nil,.nil,(.bool false)]))) (.q ⟨none,none,.store 4 (.t 5) (.t 12)⟩
 .done))))))))
 (.seq (.reg (tq 13 (.faddr 1 (.t 5)) (tq 14 (.load 1 false (.t 13)) (tm 15 (.t 0) (tq 16 (.faddr 1 (.t 5)) (tq 17 (.load 1 false (.t 16)) (tq 18 (.len (.t 17)) (.l ⟨(some 19),none,.call 123 [(.t 15),(.t 18)]⟩ [⟨(some 14),none,.load 1 false (.t 13)⟩,⟨(some 13),none,.faddr 1 (.t 5)⟩]
 (tq 20 (.iaddr 8 (.t 14) (.t 19)) (tq 21 (.load 8 true (.t 20)) (.l ⟨(some 6),none,.box 8 (.c (.agg [(.str []),(.int .i64 0),(.int .i64 0),(.int .i64 0),(.int .i64 0),(.int .i64 0),(.str []),(.bool false)]))⟩ [⟨(some 21),none,.load 8 true (.t 20)⟩,⟨(some 20),none,.iaddr 8 (.t 14) (.t 19)⟩,⟨(some 18),none,.len (.t 17)⟩,⟨(some 17),none,.load 1 false (.t 16)⟩,⟨(some 16),none,.faddr 1 (.t 5)⟩,⟨(some 14),none,.load 1 false (.t 13)⟩,⟨(some 13),none,.faddr 1 (.t 5)⟩]
 (.l ⟨none,none,.store 8 (.t 6) (.t 21)⟩ []
 .done .non) .non))) (.l ⟨(some 6),none,.box 8 (.c (.agg [(.str []),(.int .i64 0),(.int .i64 0),(.int .i64 0),(.int .i64 0),(.int .i64 0),(.str []),(.bool false)]))⟩ [⟨(some 18),none,.len (.t 17)⟩,⟨(some 17),none,.load 1 false (.t 16)⟩,⟨(some 16),none,.faddr 1 (.t 5)⟩,⟨(some 14),none,.load 1 false (.t 13)⟩,⟨(some 13),none,.faddr 1 (.t 5)⟩]
 (.l ⟨(some 19),none,.call 123 [(.t 15),(.t 18)]⟩ [⟨(some 14),none,.load 1 false (.t 13)⟩,⟨(some 13),none,.faddr 1 (.t 5)⟩]
 (tq 20 (.iaddr 8 (.t 14) (.t 19)) (tq 21 (.load 8 true (.t 20)) (.l ⟨none,none,.store 8 (.t 6) (.t 21)⟩ []
 .done .non))) .non) .non)))))))))
 (.cut (.seq (.seq (.reg (tm 22 (.t 0) (tq 23 (.call 220 [(.t 22),(.c (.int .i64 2))]) .done)))
 (.cond (.t 23) (.reg (tq 24 (.faddr 1 (.t 5)) (tq 25 (.load 1 false (.t 24)) (tq 26 (.faddr 1 (.t 5)) (tq 27 (.load 1 false (.t 26)) (tq 28 (.len (.t 27)) (tq 29 (.bin .sub (.t 28) (.c (.int .i64 1))) (tm 30 (.t 0) (.l ⟨(some 31),none,.call 123 [(.t 30),(.c (.int .i64 2))]⟩ [⟨(some 28),none,.len (.t 27)⟩,⟨(some 27),none,.load 1 false (.t 26)⟩,⟨(some 26),none,.faddr 1 (.t 5)⟩,⟨(some 25),none,.load 1 false (.t 24)⟩,⟨(some 24),none,.faddr 1 (.t 5)⟩]
 (tq 32 (.bin .sub (.t 29) (.t 31)) (tq 33 (.iaddr 8 (.t 25) (.t 32)) (tq 34 (.load 8 true (.t 33)) (.l ⟨none,none,.store 8 (.t 6) (.t 34)⟩ []
 .done .non)))) .non)))))))))
 .skip))
 (.cut (.seq (.reg (tq 35 (.faddr 0 (.t 6)) (tq 36 (.load 1 false (.t 35)) (tm 37 (.t 0) (tm 40 (.t 0) (tq 41 (.faddr 1 (.t 6)) (tq 42 (.load 1 false (.t 41)) (.l ⟨(some 38),none,.call 123 [(.t 37),(.c (.int .i64 2))]⟩ [⟨(some 42),none,.load 1 false (.t 41)⟩,⟨(some 41),none,.faddr 1 (.t 6)⟩,⟨(some 36),none,.load 1 false (.t 35)⟩,⟨(some 35),none,.faddr 0 (.t 6)⟩]
 (tq 39 (.bin .add (.c (.int .i64 6)) (.t 38)) (.l ⟨(some 43),none,.call 166 [(.t 40),(.t 42)]⟩ [⟨(some 36),none,.load 1 false (.t 35)⟩,⟨(some 35),none,.faddr 0 (.t 6)⟩]
 (tq 44 (.build [(.str []),(.int .i64 0),.nil] [(0,1,(.t 36)),(1,1,(.t 39)),(2,1,(.t 43))]) (.l ⟨(some 7),none,.box 3 (.c (.agg [(.str []),(.int .i64 0),.nil]))⟩ [⟨(some 44),none,.build [(.str []),(.int .i64 0),.nil] [(0,1,(.t 36)),(1,1,(.t 39)),(2,1,(.t 43))]⟩,⟨(some 42),none,.load 1 false (.t 41)⟩,⟨(some 41),none,.faddr 1 (.t 6)⟩,⟨(some 36),none,.load 1 false (.t 35)⟩,⟨(some 35),none,.faddr 0 (.t 6)⟩]
 (.l ⟨none,none,.store 3 (.t 7) (.t 44)⟩ []
 .done .non) .non)) (.l ⟨(some 7),none,.box 3 (.c (.agg [(.str []),(.int .i64 0),.nil]))⟩ [⟨(some 42),none,.load 1 false (.t 41)⟩,⟨(some 41),none,.faddr 1 (.t 6)⟩,⟨(some 36),none,.load 1 false (.t 35)⟩,⟨(some 35),none,.faddr 0 (.t 6)⟩]
 (.l ⟨(some 43),none,.call 166 [(.t 40),(.t 42)]⟩ [⟨(some 36),none,.load 1 false (.t 35)⟩,⟨(some 35),none,.faddr 0 (.t 6)⟩]
 (tq 44 (.build [(.str []),(.int .i64 0),.nil] [(0,1,(.t 36)),(1,1,(.t 39)),(2,1,(.t 43))]) (.l ⟨none,none,.store 3 (.t 7) (.t 44)⟩ []
 .done .non)) .non) .non))) (.l ⟨(some 7),none,.box 3 (.c (.agg [(.str []),(.int .i64 0),.nil]))⟩ [⟨(some 42),none,.load 1 false (.t 41)⟩,⟨(some 41),none,.faddr 1 (.t 6)⟩,⟨(some 36),none,.load 1 false (.t 35)⟩,⟨(some 35),none,.faddr 0 (.t 6)⟩]
 (.l ⟨(some 38),none,.call 123 [(.t 37),(.c (.int .i64 2))]⟩ [⟨(some 42),none,.load 1 false (.t 41)⟩,⟨(some 41),none,.faddr 1 (.t 6)⟩,⟨(some 36),none,.load 1 false (.t 35)⟩,⟨(some 35),none,.faddr 0 (.t 6)⟩]
 (tq 39 (.bin .add (.c (.int .i64 6)) (.t 38)) (.l ⟨(some 43),none,.call 166 [(.t 40),(.t 42)]⟩ [⟨(some 36),none,.load 1 false (.t 35)⟩,⟨(some 35),none,.faddr 0 (.t 6)⟩]
 (tq 44 (.build [(.str []),(.int .i64 0),.nil] [(0,1,(.t 36)),(1,1,(.t 39)),(2,1,(.t 43))]) (.l ⟨none,none,.store 3 (.t 7) (.t 44)⟩ []
 .done .non)) .non)) .non) .non)))))))))
 (.cut (.seq (.seq (.reg (tq 45 (.faddr 1 (.t 6)) (tq 46 (.load 1 false (.t 45)) (tq 47 (.bin .eql (.t 46) (.c (.int .i64 1))) (tm 48 (.t 47) (tg 49 48 true (.mov (.t 0)) (tg 50 48 true (.call 220 [(.t 49),(.c (.int .i64 4))]) (tg 51 48 true (.not (.t 50)) (tq 52 (.pick (.t 48) (.t 51) (.c (.bool false))) .done)))))))))
 (.cut (.cond (.t 52) (.seq (.reg (tm 53 (.t 0) (tq 54 (.call 123 [(.t 53),(.c (.int .i64 5))]) (tq 55 (.bin .add (.c (.int .i64 1)) (.t 54)) (tq 56 (.faddr 1 (.t 7)) (.q ⟨none,none,.store 1 (.t 56) (.t 55)⟩
 .done))))))
 (.reg (tm 57 (.t 0) (tq 58 (.call 123 [(.t 57),(.c (.int .i64 9))]) (tq 59 (.bin .sub (.t 58) (.c (.int .i64 3))) (tq 60 (.build [(.int .i64 0),(.int .i64 0),(.str [])] [(0,1,(.c (.int .i64 1))),(1,1,(.t 59))]) (tq 61 (.bslice 3 [(.t 60)]) (tq 62 (.faddr 2 (.t 7)) (.q ⟨none,none,.store 1 (.t 62) (.t 61)⟩
 .done)))))))))
 .skip)))
 (.seq (.reg (tq 63 (.load 3 true (.t 7)) (.q ⟨none,none,.store 3 (.t 4) (.t 63)⟩
 .done)))
 .ret))))))))))
theorem d8i:a1e Tryz.prog Tryz.f124 = some (d3v.erase,[.load 3 true (.t 4)],64):=by kernel_rfl
def a9r (L:Int) (Aa:a0h):Option (a5i × a0h) :=
    (a6e).bind fun Aq =>
    (idx Aq.Tables L).bind fun D =>
    (((a0z (D.Columns.length:Int) Aa).bind fun K =>
    (idx D.Columns K.1).bind fun A =>
    some (K.2.Code,K.2.At,K.2.Seed,A.Name,A.Kind,A.Min,A.Max,A.Low,A.High,A.Ref,A.Strong):Option ((List Int) × Int × Int × Str × Int × Int × Int × Int × Int × Str × Bool))).bind fun p23 =>
    (match p23 with
    | (Ar,As,Au,Ab,Ac,Ad,Ae,Af,Ag,Ah,Ai) =>
    (((a1r 2 (⟨Ar,As,Au⟩:a0h)).bind fun N =>
    if N.1 then
    (a0z 2 N.2).bind fun O =>
    (idx D.Columns (w64 ((w64 ((D.Columns.length:Int) - 1)) - O.1))).bind fun E =>
    some (O.2.Code,O.2.At,O.2.Seed,E.Name,E.Kind,E.Min,E.Max,E.Low,E.High,E.Ref,E.Strong)
    else
    some (N.2.Code,N.2.At,N.2.Seed,Ab,Ac,Ad,Ae,Af,Ag,Ah,Ai):Option ((List Int) × Int × Int × Str × Int × Int × Int × Int × Int × Str × Bool))).bind fun p48 =>
    (match p48 with
    | (Av,Aw,Ax,B,H,S,T,U,V,W,Y) =>
    (((a0z 2 (⟨Av,Aw,Ax⟩:a0h)).bind fun G =>
    (a4g H G.2).bind fun F =>
    some (F.2.Code,F.2.At,F.2.Seed,w64 (6 + G.1),F.1):Option ((List Int) × Int × Int × Int × (List a1c)))).bind fun p66 =>
    (match p66 with
    | (Ak,Al,Am,Z,P) =>
    ((if (H == 1) then
    (a1r 4 (⟨Ak,Al,Am⟩:a0h)).bind fun M =>
    some ((!M.1),M.2.Code,M.2.At,M.2.Seed)
    else
    some (false,Ak,Al,Am):Option (Bool × (List Int) × Int × Int))).bind fun p78 =>
    (match p78 with
    | (Aj,An,Ao,Ap) =>
    if Aj then
    (a0z 5 (⟨An,Ao,Ap⟩:a0h)).bind fun J =>
    (a0z 9 J.2).bind fun R =>
    some ((⟨B,w64 (1 + J.1),[(⟨1,w64 (R.1 - 3),[]⟩:a1c)]⟩:a5i),R.2)
    else
    some ((⟨B,Z,P⟩:a5i),(⟨An,Ao,Ap⟩:a0h))))))
theorem c0r (L:Int) (Aa:a0h) (r:(a5i × a0h)) (hf:a9r L Aa = some r):a1u Tryz.prog false 124 [(.ptr 0 0 0),(.I L)] [.box 3 (.agg [(.lst 1 (Aa.Code.map a0c)),(.I Aa.At),(.I Aa.Seed)])] (a0o r.1) [.box 3 (.agg [(.lst 1 (r.2.Code.map a0c)),(.I r.2.At),(.I r.2.Seed)])]:=by
 refine a1u.of_awp mixed Tryz.func124 d8i nle ?_;rw [a0n];unfold a9r at hf;unfold d3v;refine (show awp Tryz.prog false 1 _ (ofL [(0,(.ptr 0 0 0)),(1,(.I L))]) [.box 3 (.agg [(.lst 1 (Aa.Code.map a0c)),(.I Aa.At),(.I Aa.Seed)])] _ from ?_);refine sr<|x8 (a1j (j:=1) (c:=(.agg [(.str []),(.I 0),.nil])) rfl tr rfl rfl)<|dk<|sr<|?_
 obtain ⟨Aq,er4,hf⟩:=ob hf
 obtain ⟨D,ex6,hf⟩:=ob hf
 refine x8 (c9d rfl (a8b _ er4) rfl .r rfl)<|o8 (.lst 4 (Aq.Tables.map x9)) rfl nle rfl<|l7 (.I L) rfl<|x8 (a2t (enc:=x9) rfl rfl (a8n ex6) (a8o ex6))<|o8 (x9 D) rfl nle rfl<|x8 (a1j (j:=2) (c:=(.agg [(.str []),.nil,.nil,(.bool false)])) rfl tr rfl rfl)<|a3o (a0e (v:=(.agg [(.str D.Name),(.lst 8 (D.Columns.map o5)),(.lst 1 (D.Unique.map encI)),(.bool D.Root)])) (y':=(.agg [(.str D.Name),(.lst 8 (D.Columns.map o5)),(.lst 1 (D.Unique.map encI)),(.bool D.Root)])) rfl rfl rfl tr ⟨rfl,nle⟩ ⟨⟨rfl,tr⟩,⟨⟨rfl,tr⟩,⟨⟨rfl,tr⟩,⟨⟨rfl,tr⟩,tr⟩⟩⟩⟩ rfl)<|?_
 refine dk<|o7<|?_
 obtain ⟨p23,hb1,hf⟩:=ob hf
 refine a1k ([(0,(.ptr 0 0 0)),(4,(.ptr 1 0 0)),(5,(.ptr 2 0 0)),(6,(.ptr 3 0 0))],[.box 3 (.agg [(.lst 1 (p23.1.map a0c)),(.I p23.2.1),(.I p23.2.2.1)]),.box 3 (.agg [(.str []),(.I 0),.nil]),.box 4 (.agg [(.str D.Name),(.lst 8 (D.Columns.map o5)),(.lst 1 (D.Unique.map encI)),(.bool D.Root)]),.box 8 (.agg [(.str p23.2.2.2.1),(.I p23.2.2.2.2.1),(.I p23.2.2.2.2.2.1),(.I p23.2.2.2.2.2.2.1),(.I p23.2.2.2.2.2.2.2.1),(.I p23.2.2.2.2.2.2.2.2.1),(.str p23.2.2.2.2.2.2.2.2.2.1),(.bool p23.2.2.2.2.2.2.2.2.2.2)])]) ?_ ?_
 ·refine a0r ?_
  obtain ⟨K,er26,hb1⟩:=ob hb1
  obtain ⟨A,ex28,hb1⟩:=ob hb1
  refine o8 (.ptr 2 0 1) rfl tr rfl<|o8 (.lst 8 (D.Columns.map o5)) rfl nle rfl<|l7 (.ptr 0 0 0) rfl<|o8 (.ptr 2 0 1) rfl tr rfl<|o8 (.lst 8 (D.Columns.map o5)) rfl nle rfl<|a1i (a1p (enc:=o5) rfl) fun hl24 => ?_;refine a1a (a0u (v:=(.I K.1)) (h2:=[.box 3 (.agg [(.lst 1 (K.2.Code.map a0c)),(.I K.2.At),(.I K.2.Seed)]),.box 3 (.agg [(.str []),(.I 0),.nil]),.box 4 (.agg [(.str D.Name),(.lst 8 (D.Columns.map o5)),(.lst 1 (D.Unique.map encI)),(.bool D.Root)])]) [] [0] (fun _ => rfl) (a0p _ _ _ er26) rfl .r .r rfl rfl) (.inr ⟨⟨nle,rfl⟩,⟨⟨tr,rfl⟩,tr⟩⟩) ?_ ?_
  ·refine a1a (a1j (j:=3) (c:=(.agg [(.str []),(.I 0),(.I 0),(.I 0),(.I 0),(.I 0),(.str []),(.bool false)])) rfl tr rfl rfl) (.inr ⟨(c4w (enc:=o5) rfl),⟨⟨nle,rfl⟩,⟨⟨tr,rfl⟩,⟨⟨nle,rfl⟩,⟨⟨tr,rfl⟩,tr⟩⟩⟩⟩⟩) tr ?_;refine a1a (a0u (v:=(.I K.1)) (h2:=[.box 3 (.agg [(.lst 1 (K.2.Code.map a0c)),(.I K.2.At),(.I K.2.Seed)]),.box 3 (.agg [(.str []),(.I 0),.nil]),.box 4 (.agg [(.str D.Name),(.lst 8 (D.Columns.map o5)),(.lst 1 (D.Unique.map encI)),(.bool D.Root)]),.box 8 (.agg [(.str []),(.I 0),(.I 0),(.I 0),(.I 0),(.I 0),(.str []),(.bool false)])]) [] [0] (fun _ => rfl) (a0p _ _ _ er26) rfl .r .r rfl rfl) (.inr ⟨⟨nle,rfl⟩,⟨⟨tr,rfl⟩,tr⟩⟩) tr ?_
   refine x8 (a2t (enc:=o5) rfl rfl (a8n ex28) (a8o ex28))<|o8 (o5 A) rfl nle rfl<|a4h (a0e (v:=(.agg [(.str A.Name),(.I A.Kind),(.I A.Min),(.I A.Max),(.I A.Low),(.I A.High),(.str A.Ref),(.bool A.Strong)])) (y':=(.agg [(.str A.Name),(.I A.Kind),(.I A.Min),(.I A.Max),(.I A.Low),(.I A.High),(.str A.Ref),(.bool A.Strong)])) rfl rfl rfl tr ⟨rfl,nle⟩ ⟨⟨rfl,tr⟩,⟨⟨rfl,tr⟩,⟨⟨rfl,tr⟩,⟨⟨rfl,tr⟩,⟨⟨rfl,tr⟩,⟨⟨rfl,tr⟩,⟨⟨rfl,tr⟩,⟨⟨rfl,tr⟩,tr⟩⟩⟩⟩⟩⟩⟩⟩ rfl) tr tr<|y5<|?_
   obtain rfl:=os hb1;exact ⟨[],[0,1,2,3],_,_,rfl,rfl,⟨.r,⟨.r,⟨.r,⟨.r,tr⟩⟩⟩⟩,.r⟩
  ·refine x8 (a2t (enc:=o5) rfl rfl (a8n ex28) (a8o ex28))<|o8 (o5 A) rfl nle rfl<|a1a (a1j (j:=3) (c:=(.agg [(.str []),(.I 0),(.I 0),(.I 0),(.I 0),(.I 0),(.str []),(.bool false)])) rfl tr rfl rfl) (.inr ⟨⟨nle,rfl⟩,⟨(d1a (enc:=o5) rfl rfl (a8n ex28) (a8o ex28)),⟨(c4w (enc:=o5) rfl),⟨⟨nle,rfl⟩,⟨⟨tr,rfl⟩,⟨⟨nle,rfl⟩,⟨⟨tr,rfl⟩,tr⟩⟩⟩⟩⟩⟩⟩) tr<|a4h (a0e (v:=(.agg [(.str A.Name),(.I A.Kind),(.I A.Min),(.I A.Max),(.I A.Low),(.I A.High),(.str A.Ref),(.bool A.Strong)])) (y':=(.agg [(.str A.Name),(.I A.Kind),(.I A.Min),(.I A.Max),(.I A.Low),(.I A.High),(.str A.Ref),(.bool A.Strong)])) rfl rfl rfl tr ⟨rfl,nle⟩ ⟨⟨rfl,tr⟩,⟨⟨rfl,tr⟩,⟨⟨rfl,tr⟩,⟨⟨rfl,tr⟩,⟨⟨rfl,tr⟩,⟨⟨rfl,tr⟩,⟨⟨rfl,tr⟩,⟨⟨rfl,tr⟩,tr⟩⟩⟩⟩⟩⟩⟩⟩ rfl) tr tr<|?_
   refine y5 ?_;obtain rfl:=os hb1;exact ⟨[],[0,1,2,3],_,_,rfl,rfl,⟨.r,⟨.r,⟨.r,⟨.r,tr⟩⟩⟩⟩,.r⟩
 ·obtain ⟨Ar,As,Au,Ab,Ac,Ad,Ae,Af,Ag,Ah,Ai⟩:=p23
  refine o7 ?_
  obtain ⟨p48,hb1,hf⟩:=ob hf
  refine a1k ([(0,(.ptr 0 0 0)),(4,(.ptr 1 0 0)),(6,(.ptr 2 0 0))],[.box 3 (.agg [(.lst 1 (p48.1.map a0c)),(.I p48.2.1),(.I p48.2.2.1)]),.box 3 (.agg [(.str []),(.I 0),.nil]),.box 8 (.agg [(.str p48.2.2.2.1),(.I p48.2.2.2.2.1),(.I p48.2.2.2.2.2.1),(.I p48.2.2.2.2.2.2.1),(.I p48.2.2.2.2.2.2.2.1),(.I p48.2.2.2.2.2.2.2.2.1),(.str p48.2.2.2.2.2.2.2.2.2.1),(.bool p48.2.2.2.2.2.2.2.2.2.2)])]) ?_ ?_
  ·refine sr<|?_
   obtain ⟨N,er50,hb1⟩:=ob hb1
   refine l7 (.ptr 0 0 0) rfl ?_;refine x8 (a0u (v:=(.bool N.1)) (h2:=[.box 3 (.agg [(.lst 1 (N.2.Code.map a0c)),(.I N.2.At),(.I N.2.Seed)]),.box 3 (.agg [(.str []),(.I 0),.nil]),.box 4 (.agg [(.str D.Name),(.lst 8 (D.Columns.map o5)),(.lst 1 (D.Unique.map encI)),(.bool D.Root)]),.box 8 (.agg [(.str Ab),(.I Ac),(.I Ad),(.I Ae),(.I Af),(.I Ag),(.str Ah),(.bool Ai)])]) [] [0] (fun _ => rfl) (a1w _ _ _ er50) rfl .r .r rfl rfl) ?_;refine dk<|?_
   rcases oi hb1 with ⟨c51,hb1⟩ | ⟨c51,hb1⟩
   ·refine y8 rfl c51<|a0r<|?_
    obtain ⟨O,er54,hb1⟩:=ob hb1
    obtain ⟨E,ex56,hb1⟩:=ob hb1
    refine o8 (.ptr 2 0 1) rfl tr rfl<|o8 (.lst 8 (D.Columns.map o5)) rfl nle rfl<|o8 (.ptr 2 0 1) rfl tr rfl<|o8 (.lst 8 (D.Columns.map o5)) rfl nle rfl<|a1i (a1p (enc:=o5) rfl) fun hl52 => o8 (.I (w64 ((D.Columns.length:Int) - 1))) rfl rfl rfl<|l7 (.ptr 0 0 0) rfl<|?_;refine a1a (a0u (v:=(.I O.1)) (h2:=[.box 3 (.agg [(.lst 1 (O.2.Code.map a0c)),(.I O.2.At),(.I O.2.Seed)]),.box 3 (.agg [(.str []),(.I 0),.nil]),.box 4 (.agg [(.str D.Name),(.lst 8 (D.Columns.map o5)),(.lst 1 (D.Unique.map encI)),(.bool D.Root)]),.box 8 (.agg [(.str Ab),(.I Ac),(.I Ad),(.I Ae),(.I Af),(.I Ag),(.str Ah),(.bool Ai)])]) [] [0] (fun _ => rfl) (a0p _ _ _ er54) rfl .r .r rfl rfl) (.inr ⟨(c4w (enc:=o5) rfl),⟨⟨nle,rfl⟩,⟨⟨tr,rfl⟩,⟨⟨nle,rfl⟩,⟨⟨tr,rfl⟩,tr⟩⟩⟩⟩⟩) tr ?_
    refine o8 (.I (w64 ((w64 ((D.Columns.length:Int) - 1)) - O.1))) rfl rfl rfl<|x8 (a2t (enc:=o5) rfl rfl (a8n ex56) (a8o ex56))<|o8 (o5 E) rfl nle rfl<|a4h (a0e (v:=(.agg [(.str E.Name),(.I E.Kind),(.I E.Min),(.I E.Max),(.I E.Low),(.I E.High),(.str E.Ref),(.bool E.Strong)])) (y':=(.agg [(.str E.Name),(.I E.Kind),(.I E.Min),(.I E.Max),(.I E.Low),(.I E.High),(.str E.Ref),(.bool E.Strong)])) rfl rfl rfl tr ⟨rfl,nle⟩ ⟨⟨rfl,tr⟩,⟨⟨rfl,tr⟩,⟨⟨rfl,tr⟩,⟨⟨rfl,tr⟩,⟨⟨rfl,tr⟩,⟨⟨rfl,tr⟩,⟨⟨rfl,tr⟩,⟨⟨rfl,tr⟩,tr⟩⟩⟩⟩⟩⟩⟩⟩ rfl) tr tr<|?_
    refine y5 ?_;obtain rfl:=os hb1;exact ⟨[],[0,1,3],_,_,rfl,rfl,⟨.r,⟨.r,⟨.r,tr⟩⟩⟩,.r⟩
   ·refine y9 rfl (bf c51)<|a0k<|?_;obtain rfl:=os hb1;exact ⟨[],[0,1,3],_,_,rfl,rfl,⟨.r,⟨.r,⟨.r,tr⟩⟩⟩,.r⟩
  ·obtain ⟨Av,Aw,Ax,B,H,S,T,U,V,W,Y⟩:=p48
   refine o7 ?_
   obtain ⟨p66,hb1,hf⟩:=ob hf
   refine a1k ([(0,(.ptr 0 0 0)),(4,(.ptr 1 0 0)),(6,(.ptr 2 0 0)),(7,(.ptr 3 0 0))],[.box 3 (.agg [(.lst 1 (p66.1.map a0c)),(.I p66.2.1),(.I p66.2.2.1)]),.box 3 (.agg [(.str []),(.I 0),.nil]),.box 8 (.agg [(.str B),(.I H),(.I S),(.I T),(.I U),(.I V),(.str W),(.bool Y)]),.box 3 (.agg [(.str B),(.I p66.2.2.2.1),(.lst 3 (p66.2.2.2.2.map l9))])]) ?_ ?_
   ·refine a0r ?_
    obtain ⟨G,er68,hb1⟩:=ob hb1
    obtain ⟨F,er70,hb1⟩:=ob hb1
    refine o8 (.ptr 2 0 0) rfl tr rfl<|o8 (.str B) rfl nle rfl<|l7 (.ptr 0 0 0) rfl<|l7 (.ptr 0 0 0) rfl<|o8 (.ptr 2 0 1) rfl tr rfl<|o8 (.I H) rfl nle rfl<|?_;refine a1a (a0u (v:=(.I G.1)) (h2:=[.box 3 (.agg [(.lst 1 (G.2.Code.map a0c)),(.I G.2.At),(.I G.2.Seed)]),.box 3 (.agg [(.str []),(.I 0),.nil]),.box 8 (.agg [(.str B),(.I H),(.I S),(.I T),(.I U),(.I V),(.str W),(.bool Y)])]) [] [0] (fun _ => rfl) (a0p _ _ _ er68) rfl .r .r rfl rfl) (.inr ⟨⟨nle,rfl⟩,⟨⟨tr,rfl⟩,⟨⟨nle,rfl⟩,⟨⟨tr,rfl⟩,tr⟩⟩⟩⟩) ?_ ?_
    ·refine a1a (a1j (j:=3) (c:=(.agg [(.str []),(.I 0),.nil])) rfl tr rfl rfl) (.inr ⟨⟨nle,rfl⟩,⟨⟨tr,rfl⟩,⟨⟨nle,rfl⟩,⟨⟨tr,rfl⟩,tr⟩⟩⟩⟩) tr ?_;refine a1a (a0u (v:=(.I G.1)) (h2:=[.box 3 (.agg [(.lst 1 (G.2.Code.map a0c)),(.I G.2.At),(.I G.2.Seed)]),.box 3 (.agg [(.str []),(.I 0),.nil]),.box 8 (.agg [(.str B),(.I H),(.I S),(.I T),(.I U),(.I V),(.str W),(.bool Y)]),.box 3 (.agg [(.str []),(.I 0),.nil])]) [] [0] (fun _ => rfl) (a0p _ _ _ er68) rfl .r .r rfl rfl) (.inr ⟨⟨nle,rfl⟩,⟨⟨tr,rfl⟩,⟨⟨nle,rfl⟩,⟨⟨tr,rfl⟩,tr⟩⟩⟩⟩) tr ?_
     refine o8 (.I (w64 (6 + G.1))) rfl rfl rfl ?_;refine a1a (a0u (v:=(.lst 3 (F.1.map l9))) (h2:=[.box 3 (.agg [(.lst 1 (F.2.Code.map a0c)),(.I F.2.At),(.I F.2.Seed)]),.box 3 (.agg [(.str []),(.I 0),.nil]),.box 8 (.agg [(.str B),(.I H),(.I S),(.I T),(.I U),(.I V),(.str W),(.bool Y)]),.box 3 (.agg [(.str []),(.I 0),.nil])]) [] [0] (fun _ => rfl) (a1s _ _ _ er70) rfl .r .r rfl rfl) (.inr ⟨⟨nle,rfl⟩,⟨⟨tr,rfl⟩,tr⟩⟩) tr ?_;refine o8 (.agg [(.str B),(.I (w64 (6 + G.1))),(.lst 3 (F.1.map l9))]) rfl ⟨⟨rfl,nle,tr⟩,⟨⟨rfl,nle,tr⟩,⟨⟨rfl,nle,tr⟩,tr⟩⟩⟩ rfl ?_
     refine a4h (a0e (v:=(.agg [(.str B),(.I (w64 (6 + G.1))),(.lst 3 (F.1.map l9))])) (y':=(.agg [(.str B),(.I (w64 (6 + G.1))),(.lst 3 (F.1.map l9))])) rfl rfl rfl tr ⟨rfl,nle⟩ ⟨⟨rfl,tr⟩,⟨⟨rfl,tr⟩,⟨⟨rfl,tr⟩,tr⟩⟩⟩ rfl) tr tr<|y5<|?_;obtain rfl:=os hb1;exact ⟨[],[0,1,2,3],_,_,rfl,rfl,⟨.r,⟨.r,⟨.r,⟨.r,tr⟩⟩⟩⟩,.r⟩
    ·refine o8 (.I (w64 (6 + G.1))) rfl rfl rfl ?_;refine a1a (a0u (v:=(.lst 3 (F.1.map l9))) (h2:=[.box 3 (.agg [(.lst 1 (F.2.Code.map a0c)),(.I F.2.At),(.I F.2.Seed)]),.box 3 (.agg [(.str []),(.I 0),.nil]),.box 8 (.agg [(.str B),(.I H),(.I S),(.I T),(.I U),(.I V),(.str W),(.bool Y)])]) [] [0] (fun _ => rfl) (a1s _ _ _ er70) rfl .r .r rfl rfl) (.inr ⟨⟨nle,rfl⟩,⟨⟨tr,rfl⟩,tr⟩⟩) ?_ ?_
     ·refine a1a (a1j (j:=3) (c:=(.agg [(.str []),(.I 0),.nil])) rfl tr rfl rfl) (.inr ⟨⟨nle,rfl⟩,⟨⟨tr,rfl⟩,⟨⟨nle,rfl⟩,⟨⟨tr,rfl⟩,tr⟩⟩⟩⟩) tr ?_;refine a1a (a0u (v:=(.lst 3 (F.1.map l9))) (h2:=[.box 3 (.agg [(.lst 1 (F.2.Code.map a0c)),(.I F.2.At),(.I F.2.Seed)]),.box 3 (.agg [(.str []),(.I 0),.nil]),.box 8 (.agg [(.str B),(.I H),(.I S),(.I T),(.I U),(.I V),(.str W),(.bool Y)]),.box 3 (.agg [(.str []),(.I 0),.nil])]) [] [0] (fun _ => rfl) (a1s _ _ _ er70) rfl .r .r rfl rfl) (.inr ⟨⟨nle,rfl⟩,⟨⟨tr,rfl⟩,tr⟩⟩) tr ?_
      refine o8 (.agg [(.str B),(.I (w64 (6 + G.1))),(.lst 3 (F.1.map l9))]) rfl ⟨⟨rfl,nle,tr⟩,⟨⟨rfl,nle,tr⟩,⟨⟨rfl,nle,tr⟩,tr⟩⟩⟩ rfl<|a4h (a0e (v:=(.agg [(.str B),(.I (w64 (6 + G.1))),(.lst 3 (F.1.map l9))])) (y':=(.agg [(.str B),(.I (w64 (6 + G.1))),(.lst 3 (F.1.map l9))])) rfl rfl rfl tr ⟨rfl,nle⟩ ⟨⟨rfl,tr⟩,⟨⟨rfl,tr⟩,⟨⟨rfl,tr⟩,tr⟩⟩⟩ rfl) tr tr<|y5<|?_;obtain rfl:=os hb1;exact ⟨[],[0,1,2,3],_,_,rfl,rfl,⟨.r,⟨.r,⟨.r,⟨.r,tr⟩⟩⟩⟩,.r⟩
     ·refine o8 (.agg [(.str B),(.I (w64 (6 + G.1))),(.lst 3 (F.1.map l9))]) rfl ⟨⟨rfl,nle,tr⟩,⟨⟨rfl,nle,tr⟩,⟨⟨rfl,nle,tr⟩,tr⟩⟩⟩ rfl<|a1a (a1j (j:=3) (c:=(.agg [(.str []),(.I 0),.nil])) rfl tr rfl rfl) (.inr ⟨⟨⟨⟨rfl,nle,tr⟩,⟨⟨rfl,nle,tr⟩,⟨⟨rfl,nle,tr⟩,tr⟩⟩⟩,rfl⟩,⟨⟨nle,rfl⟩,⟨⟨tr,rfl⟩,⟨⟨nle,rfl⟩,⟨⟨tr,rfl⟩,tr⟩⟩⟩⟩⟩) tr<|a4h (a0e (v:=(.agg [(.str B),(.I (w64 (6 + G.1))),(.lst 3 (F.1.map l9))])) (y':=(.agg [(.str B),(.I (w64 (6 + G.1))),(.lst 3 (F.1.map l9))])) rfl rfl rfl tr ⟨rfl,nle⟩ ⟨⟨rfl,tr⟩,⟨⟨rfl,tr⟩,⟨⟨rfl,tr⟩,tr⟩⟩⟩ rfl) tr tr<|?_
      refine y5 ?_;obtain rfl:=os hb1;exact ⟨[],[0,1,2,3],_,_,rfl,rfl,⟨.r,⟨.r,⟨.r,⟨.r,tr⟩⟩⟩⟩,.r⟩
   ·obtain ⟨Ak,Al,Am,Z,P⟩:=p66
    refine o7<|o7<|?_
    obtain ⟨p78,hb1,hf⟩:=ob hf
    refine a1k ([(0,(.ptr 0 0 0)),(4,(.ptr 1 0 0)),(7,(.ptr 2 0 0)),(52,(.bool p78.1))],[.box 3 (.agg [(.lst 1 (p78.2.1.map a0c)),(.I p78.2.2.1),(.I p78.2.2.2)]),.box 3 (.agg [(.str []),(.I 0),.nil]),.box 3 (.agg [(.str B),(.I Z),(.lst 3 (P.map l9))])]) ?_ ?_
    ·refine a0r ?_
     rcases oi hb1 with ⟨c79,hb1⟩ | ⟨c79,hb1⟩
     ·obtain ⟨M,er81,hb1⟩:=ob hb1
      refine o8 (.ptr 2 0 1) rfl tr rfl<|o8 (.I H) rfl nle rfl<|o8 (.bool (H == 1)) rfl rfl rfl<|l7 (.bool (H == 1)) rfl<|a0i (s:=48) (b:=true) rfl c79<|s_on rfl<|l7 (.ptr 0 0 0) rfl<|s_on rfl<|?_;refine x8 (a0u (v:=(.bool M.1)) (h2:=[.box 3 (.agg [(.lst 1 (M.2.Code.map a0c)),(.I M.2.At),(.I M.2.Seed)]),.box 3 (.agg [(.str []),(.I 0),.nil]),.box 8 (.agg [(.str B),(.I H),(.I S),(.I T),(.I U),(.I V),(.str W),(.bool Y)]),.box 3 (.agg [(.str B),(.I Z),(.lst 3 (P.map l9))])]) [] [0] (fun _ => rfl) (a1w _ _ _ er81) rfl .r .r rfl rfl) ?_
      refine s_on rfl<|o8 (.bool (!M.1)) rfl tr rfl<|o8 (.bool (!M.1)) rfl tr rfl<|y5<|?_;obtain rfl:=os hb1;exact ⟨[],[0,1,3],_,_,rfl,rfl,⟨.r,⟨.r,⟨.r,⟨.r,tr⟩⟩⟩⟩,.r⟩
     ·refine o8 (.ptr 2 0 1) rfl tr rfl<|o8 (.I H) rfl nle rfl<|o8 (.bool (H == 1)) rfl rfl rfl<|l7 (.bool (H == 1)) rfl<|a0i (s:=48) (b:=false) rfl (bf c79)<|o6 rfl rfl<|o6 rfl rfl<|o6 rfl rfl<|o8 (.bool false) rfl tr rfl<|y5<|?_;obtain rfl:=os hb1;exact ⟨[],[0,1,3],_,_,rfl,rfl,⟨.r,⟨.r,⟨.r,⟨.r,tr⟩⟩⟩⟩,.r⟩
    ·obtain ⟨Aj,An,Ao,Ap⟩:=p78
     rcases oi hf with ⟨c82,hf⟩ | ⟨c82,hf⟩
     ·refine y8 rfl c82<|sr<|?_
      obtain ⟨J,er84,hf⟩:=ob hf
      refine l7 (.ptr 0 0 0) rfl ?_;refine x8 (a0u (v:=(.I J.1)) (h2:=[.box 3 (.agg [(.lst 1 (J.2.Code.map a0c)),(.I J.2.At),(.I J.2.Seed)]),.box 3 (.agg [(.str []),(.I 0),.nil]),.box 3 (.agg [(.str B),(.I Z),(.lst 3 (P.map l9))])]) [] [0] (fun _ => rfl) (a0p _ _ _ er84) rfl .r .r rfl rfl) ?_;refine o8 (.I (w64 (1 + J.1))) rfl rfl rfl<|o8 (.ptr 2 0 1) rfl tr rfl<|a3o (a0e (v:=(.I (w64 (1 + J.1)))) (y':=(.agg [(.str B),(.I (w64 (1 + J.1))),(.lst 3 (P.map l9))])) rfl rfl rfl tr ⟨rfl,nle⟩ ⟨⟨rfl,tr⟩,tr⟩ rfl)<|dk<|?_
      refine a0r ?_
      obtain ⟨R,er86,hf⟩:=ob hf
      refine l7 (.ptr 0 0 0) rfl ?_;refine x8 (a0u (v:=(.I R.1)) (h2:=[.box 3 (.agg [(.lst 1 (R.2.Code.map a0c)),(.I R.2.At),(.I R.2.Seed)]),.box 3 (.agg [(.str []),(.I 0),.nil]),.box 3 (.agg [(.str B),(.I (w64 (1 + J.1))),(.lst 3 (P.map l9))])]) [] [0] (fun _ => rfl) (a0p _ _ _ er86) rfl .r .r rfl rfl) ?_;refine o8 (.I (w64 (R.1 - 3))) rfl rfl rfl<|o8 (.agg [(.I 1),(.I (w64 (R.1 - 3))),(.str [])]) rfl ⟨⟨rfl,nle,tr⟩,⟨⟨rfl,nle,tr⟩,tr⟩⟩ rfl<|?_;refine x8 (a0t (j:=3) (as':=[(l9 (⟨1,w64 (R.1 - 3),[]⟩:a1c))]) rfl (fun _ => by decide) ⟨rfl,tr⟩ .r rfl rfl rfl) ?_
      refine o8 (.ptr 2 0 2) rfl tr rfl<|a3o (a0e (v:=(.own 3 0 1)) (y':=(.agg [(.str B),(.I (w64 (1 + J.1))),(.own 3 0 1)])) rfl rfl rfl tr ⟨rfl,nle⟩ ⟨⟨rfl,tr⟩,tr⟩ rfl)<|dk<|sr<|o8 (.agg [(.str B),(.I (w64 (1 + J.1))),(.own 3 0 1)]) rfl nle rfl<|a3o (a0e (v:=(.agg [(.str B),(.I (w64 (1 + J.1))),(.own 3 0 1)])) (y':=(.agg [(.str B),(.I (w64 (1 + J.1))),(.own 3 0 1)])) rfl rfl rfl tr ⟨rfl,nle⟩ ⟨⟨rfl,tr⟩,⟨⟨rfl,tr⟩,⟨⟨rfl,tr⟩,tr⟩⟩⟩ rfl)<|dk<|a0b<|?_;obtain rfl:=os hf;exact a3u [.frzC 1 2] [0] rfl ⟨nle,tr⟩ rfl .r .r
     ·refine y9 rfl (bf c82)<|a0k<|a0m<|sr<|o8 (.agg [(.str B),(.I Z),(.lst 3 (P.map l9))]) rfl nle rfl<|a3o (a0e (v:=(.agg [(.str B),(.I Z),(.lst 3 (P.map l9))])) (y':=(.agg [(.str B),(.I Z),(.lst 3 (P.map l9))])) rfl rfl rfl tr ⟨rfl,nle⟩ ⟨⟨rfl,tr⟩,⟨⟨rfl,tr⟩,⟨⟨rfl,tr⟩,tr⟩⟩⟩ rfl)<|dk<|a0b<|?_;obtain rfl:=os hf;exact a3u [] [0] rfl ⟨nle,tr⟩ rfl .r .r

/- (*spec.l00Src).pickNames -/
def d3w:a0s :=
 (.seq (.reg (tm 4 (.c .nil) .done))
 (.seq (.reg (tq 8 (.call 25 []) (tq 9 (.field 0 1 false (.t 8)) (tm 10 (.t 1) (tq 11 (.iaddr 4 (.t 9) (.t 10)) (tq 12 (.load 4 true (.t 11)) (tq 5 (.box 4 (.c (.agg [(.str []),.nil,.nil,(.bool false)]))) (.q ⟨none,none,.store 4 (.t 5) (.t 12)⟩
 .done))))))))
 (.seq (.reg (tq 13 (.bslice 1 []) (tm 6 (.t 13) .done)))
 (.seq (.seq (.reg (tm 7 (.c (.int .i64 0)) .done))
 (.block 0 (.loop (.seq (.seq (.reg (tm 14 (.t 7) (tq 15 (.faddr 1 (.t 5)) (tq 16 (.load 1 false (.t 15)) (tq 17 (.len (.t 16)) (tq 18 (.bin .lss (.t 14) (.t 17)) .done))))))
 (.cond (.t 18) .skip
 (.exit 0)))
 (.seq (.block 1 (.seq (.reg (tm 21 (.t 0) (tq 22 (.call 220 [(.t 21),(.c (.int .i64 2))]) .done)))
 (.cond (.t 22) (.reg (tm 23 (.t 6) (tq 24 (.faddr 1 (.t 5)) (tq 25 (.load 1 false (.t 24)) (tm 26 (.t 7) (tq 27 (.iaddr 8 (.t 25) (.t 26)) (tq 28 (.faddr 0 (.t 27)) (tq 29 (.load 1 false (.t 28)) (tq 30 (.bslice 1 [(.t 29)]) (tq 31 (.append 1 16 (.t 23) (.t 30)) (tm 6 (.t 31) .done)))))))))))
 .skip)))
 (.reg (tm 19 (.t 7) (tq 20 (.bin .add (.t 19) (.c (.int .i64 1))) (tm 7 (.t 20) .done)))))))))
 (.cut (.seq (.seq (.reg (tm 32 (.t 0) (tq 33 (.call 220 [(.t 32),(.c (.int .i64 3))]) .done)))
 (.cond (.t 33) (.reg (tm 34 (.t 6) (tq 35 (.bslice 1 [(.c (.str [95,117,117,105,100]))]) (tq 36 (.append 1 16 (.t 34) (.t 35)) (tm 6 (.t 36) .done)))))
 .skip))
 (.seq (.reg (tm 37 (.t 6) (tm 4 (.t 37) .done)))
 .ret)))))))
theorem d8j:a1e Tryz.prog Tryz.f336 = some (d3w.erase,[.mov (.t 4)],38):=by kernel_rfl
def a2j :List a0v → (List Int) → Int → Int → (List Str) → Option ((List Int) × Int × Int × (List Str))
  | [],M,N,O,A =>
    some (M,N,O,A)
  | H :: xs,M,N,O,A =>
    (a1r 2 (⟨M,N,O⟩:a0h)).bind fun E =>
    if E.1 then
    if (A ++ [H.Name]).length ≤ 2 ^ 30 then
    a2j xs  E.2.Code E.2.At E.2.Seed (A ++ [H.Name])
    else none
    else
    a2j xs  E.2.Code E.2.At E.2.Seed A

def a6u (G:Int) (J:a0h):Option ((List Str) × a0h) :=
    (a6e).bind fun P =>
    if (0:Int) ≤ G ∧ G < (P.Tables.length:Int) then
    (P.Tables[(0 + G.toNat)]?).bind fun B =>
    (a2j B.Columns J.Code J.At J.Seed []).bind fun p47 =>
    (match p47 with
    | (R,S,T,D) =>
    (a1r 3 (⟨R,S,T⟩:a0h)).bind fun K =>
    if K.1 then
    if (D ++ [[95,117,117,105,100]]).length ≤ 2 ^ 30 then
    some (D ++ [[95,117,117,105,100]],K.2)
    else none
    else
    some (D,K.2))
    else none
theorem b6j (G:Int) (J:a0h) (r:((List Str) × a0h)) (hf:a6u G J = some r):a1u Tryz.prog false 336 [(.ptr 0 0 0),(.I G)] [.box 3 (.agg [(.lst 1 (J.Code.map a0c)),(.I J.At),(.I J.Seed)])] (.own 1 0 r.1.length) [.box 3 (.agg [(.lst 1 (r.2.Code.map a0c)),(.I r.2.At),(.I r.2.Seed)]),.row 1 (r.1.map AV.str)]:=by
 refine a1u.of_awp mixed Tryz.func336 d8j nle ?_;rw [a0n];unfold a6u at hf;unfold d3w;refine (show awp Tryz.prog false 1 _ (ofL [(0,(.ptr 0 0 0)),(1,(.I G))]) [.box 3 (.agg [(.lst 1 (J.Code.map a0c)),(.I J.At),(.I J.Seed)])] _ from ?_);refine sr<|l7 .nil rfl<|dk<|sr<|?_
 obtain ⟨P,er4,hf⟩:=ob hf
 obtain ⟨g5,hf⟩:=og hf
 obtain ⟨B,ex7,hf⟩:=ob hf
 refine x8 (d3e (v:=(.agg [(.own 1 0 P.Tables.length)])) (h':=[.row 4 (P.Tables.map x9)]) (a8b _ er4) rfl .r (by simp only [a6s,b0k,List.length_map,b8x,List.nil_append,List.append_nil,List.cons_append];rfl))<|o8 (.own 1 0 P.Tables.length) rfl nle rfl<|l7 (.I G) rfl<|x8 (a4i rfl rfl g5.1 g5.2 rfl rfl)<|x8 (a5l (enc:=x9) (v:=(x9 B)) rfl rfl ex7 nle rfl)<|x8 (a1j (j:=2) (c:=(.agg [(.str []),.nil,.nil,(.bool false)])) rfl tr rfl rfl)<|a3o (a0e (v:=(.agg [(.str B.Name),(.lst 8 (B.Columns.map o5)),(.lst 1 (B.Unique.map encI)),(.bool B.Root)])) (y':=(.agg [(.str B.Name),(.lst 8 (B.Columns.map o5)),(.lst 1 (B.Unique.map encI)),(.bool B.Root)])) rfl rfl rfl tr ⟨rfl,nle⟩ ⟨⟨rfl,tr⟩,⟨⟨rfl,tr⟩,⟨⟨rfl,tr⟩,⟨⟨rfl,tr⟩,tr⟩⟩⟩⟩ rfl)<|?_
 refine dk<|sr<|?_;refine x8 (a0t (j:=3) (as':=[]) rfl (fun _ => by decide) tr .r rfl rfl rfl) ?_;refine l7 (.own 3 0 0) rfl<|dk<|o7<|sr<|l7 (.I 0) rfl<|dk<|?_
 obtain ⟨p47,hb1,hf⟩:=ob hf
 refine a1k ([(0,(.ptr 0 0 0)),(6,(.own 1 0 p47.2.2.2.length))],[.box 3 (.agg [(.lst 1 (p47.1.map a0c)),(.I p47.2.1),(.I p47.2.2.1)]),.row 1 (p47.2.2.2.map AV.str)]) ?_ ?_
 ·refine a1v (X:={q:(Nat × (List Int) × Int × Int × (List Str)) // a2j (B.Columns.drop q.1) q.2.1 q.2.2.1 q.2.2.2.1 q.2.2.2.2 = some p47}) (fun q => ([(0,(.ptr 0 0 0)),(5,(.ptr 1 0 0)),(6,(.own 2 0 q.1.2.2.2.2.length)),(7,(.I (q.1.1:Int)))],[.box 3 (.agg [(.lst 1 (q.1.2.1.map a0c)),(.I q.1.2.2.1),(.I q.1.2.2.2.1)]),.box 4 (.agg [(.str B.Name),(.lst 8 (B.Columns.map o5)),(.lst 1 (B.Unique.map encI)),(.bool B.Root)]),.row 1 (q.1.2.2.2.2.map AV.str)])) (fun q => B.Columns.length - q.1.1) ⟨(0,J.Code,J.At,J.Seed,[]),hb1⟩ ⟨[],[0,2,3],_,_,rfl,rfl,⟨.r,⟨.r,⟨.of_eq (congrArg (AV.own _ 0) (by simp)),⟨.r,tr⟩⟩⟩⟩,.r⟩ ?_
  rintro ⟨⟨F,M,N,O,A⟩,hc1⟩
  have hc1:a2j (B.Columns.drop F) M N O A = some p47:=hc1
  refine (show awp Tryz.prog false 1 _ (ofL [(0,(.ptr 0 0 0)),(5,(.ptr 1 0 0)),(6,(.own 2 0 A.length)),(7,(.I (F:Int)))]) [.box 3 (.agg [(.lst 1 (M.map a0c)),(.I N),(.I O)]),.box 4 (.agg [(.str B.Name),(.lst 8 (B.Columns.map o5)),(.lst 1 (B.Unique.map encI)),(.bool B.Root)]),.row 1 (A.map AV.str)] _ from ?_)
  rcases a6c B.Columns F with ⟨hie50,hd53⟩ | ⟨hlt48,H,hx49,hd53⟩
  ·rw [hd53,a2j.eq_1] at hc1
   have hq52:=dlf hie50
   refine o7<|sr<|l7 (.I (F:Int)) rfl<|o8 (.ptr 1 0 1) rfl tr rfl<|o8 (.lst 8 (B.Columns.map o5)) rfl nle rfl<|a1i (a1p (enc:=o5) rfl) fun hl55 => o8 (.bool (decide ((F:Int) < (B.Columns.length:Int)))) rfl rfl rfl<|dk<|y9 rfl hq52<|a3i<|a3h<|a2e<|a3g<|?_;obtain rfl:=os hc1;exact ⟨[],[0,2],_,_,rfl,rfl,⟨.r,⟨.r,tr⟩⟩,.r⟩
  ·rw [hd53,a2j.eq_2] at hc1
   have hq52:=dlt hlt48
   refine o7<|sr<|l7 (.I (F:Int)) rfl<|o8 (.ptr 1 0 1) rfl tr rfl<|o8 (.lst 8 (B.Columns.map o5)) rfl nle rfl<|a1i (a1p (enc:=o5) rfl) fun hl56 => o8 (.bool (decide ((F:Int) < (B.Columns.length:Int)))) rfl rfl rfl<|dk<|y8 rfl hq52<|a0k<|a0m<|o7<|a3y<|sr<|?_
   obtain ⟨E,er58,hc1⟩:=ob hc1
   refine l7 (.ptr 0 0 0) rfl ?_;refine x8 (a0u (v:=(.bool E.1)) (h2:=[.box 3 (.agg [(.lst 1 (E.2.Code.map a0c)),(.I E.2.At),(.I E.2.Seed)]),.box 4 (.agg [(.str B.Name),(.lst 8 (B.Columns.map o5)),(.lst 1 (B.Unique.map encI)),(.bool B.Root)]),.row 1 (A.map AV.str)]) [] [0] (fun _ => rfl) (a1w _ _ _ er58) rfl .r .r rfl rfl) ?_;refine dk<|?_
   rcases oi hc1 with ⟨c59,hc1⟩ | ⟨c59,hc1⟩
   ·refine y8 rfl c59<|a0r<|?_
    obtain ⟨g60,hc1⟩:=og hc1
    refine l7 (.own 2 0 A.length) rfl<|o8 (.ptr 1 0 1) rfl tr rfl<|o8 (.lst 8 (B.Columns.map o5)) rfl nle rfl<|l7 (.I (F:Int)) rfl<|x8 (a1o (enc:=o5) rfl rfl hx49)<|o8 (.iptr (o5 H) 0) rfl tr rfl<|o8 (.str H.Name) rfl nle rfl<|?_;refine x8 (a0t (j:=3) (as':=[(.str H.Name)]) rfl (fun _ => by decide) ⟨rfl,tr⟩ .r rfl rfl rfl) ?_
    refine x8 (a5m (j:=4) (L:=((A ++ [H.Name]).map AV.str)) (len:=(A ++ [H.Name]).length) rfl rfl (c6g (enc:=AV.str) A [H.Name] _ (by rfl)) (by simp <;> omega) g60 rfl rfl) ?_
    refine l7 (.own 4 0 ((A ++ [H.Name]).length)) rfl<|y5<|a2y<|a0m<|a0r<|l7 (.I (F:Int)) rfl<|o8 (.I (w64 ((F:Int) + 1))) rfl rfl rfl<|l7 (.I (w64 ((F:Int) + 1))) rfl<|y5<|?_;exact a1z ⟨((F + 1),E.2.Code,E.2.At,E.2.Seed,A ++ [H.Name]),hc1⟩ (mul hlt48) ⟨[],[0,1,4],_,_,rfl,rfl,⟨.r,⟨.r,⟨.r,⟨.of_eq (congrArg (AV.int _) (a1x hlt48 hl56)),tr⟩⟩⟩⟩,.r⟩
   ·refine y9 rfl (bf c59)<|a0k<|a2y<|a0m<|a0r<|l7 (.I (F:Int)) rfl<|o8 (.I (w64 ((F:Int) + 1))) rfl rfl rfl<|l7 (.I (w64 ((F:Int) + 1))) rfl<|y5<|?_;exact a1z ⟨((F + 1),E.2.Code,E.2.At,E.2.Seed,A),hc1⟩ (mul hlt48) ⟨[],[0,1,2],_,_,rfl,rfl,⟨.r,⟨.r,⟨.r,⟨.of_eq (congrArg (AV.int _) (a1x hlt48 hl56)),tr⟩⟩⟩⟩,.r⟩
 ·obtain ⟨R,S,T,D⟩:=p47
  refine o7<|sr<|?_
  obtain ⟨K,er62,hf⟩:=ob hf
  refine l7 (.ptr 0 0 0) rfl ?_;refine x8 (a0u (v:=(.bool K.1)) (h2:=[.box 3 (.agg [(.lst 1 (K.2.Code.map a0c)),(.I K.2.At),(.I K.2.Seed)]),.row 1 (D.map AV.str)]) [] [0] (fun _ => rfl) (a1w _ _ _ er62) rfl .r .r rfl rfl) ?_;refine dk<|?_
  rcases oi hf with ⟨c63,hf⟩ | ⟨c63,hf⟩
  ·refine y8 rfl c63<|a0r<|?_
   obtain ⟨g64,hf⟩:=og hf
   refine l7 (.own 1 0 D.length) rfl ?_;refine x8 (a0t (j:=2) (as':=[(.str [95,117,117,105,100])]) rfl (fun _ => by decide) ⟨rfl,tr⟩ .r rfl rfl rfl) ?_
   refine x8 (a5m (j:=3) (L:=((D ++ [[95,117,117,105,100]]).map AV.str)) (len:=(D ++ [[95,117,117,105,100]]).length) rfl rfl (c6g (enc:=AV.str) D [[95,117,117,105,100]] _ (by rfl)) (by simp <;> omega) g64 rfl rfl) ?_
   refine l7 (.own 3 0 ((D ++ [[95,117,117,105,100]]).length)) rfl<|dk<|sr<|l7 (.own 3 0 ((D ++ [[95,117,117,105,100]]).length)) rfl<|l7 (.own 3 0 ((D ++ [[95,117,117,105,100]]).length)) rfl<|dk<|a0b<|?_;obtain rfl:=os hf;exact a3u [] [0,3] rfl ⟨tr,tr⟩ rfl .r .r
  ·refine y9 rfl (bf c63)<|a0k<|a0m<|sr<|l7 (.own 1 0 D.length) rfl<|l7 (.own 1 0 D.length) rfl<|dk<|a0b<|?_;obtain rfl:=os hf;exact a3u [] [0,1] rfl ⟨tr,tr⟩ rfl .r .r

/- (*spec.l00Src).op -/
def d3x:a0s :=
 (.seq (.reg (tq 2 (.box 8 (.c (.agg [(.int .i64 0),(.str []),(.str []),.nil,.nil,.nil,.nil,(.bool false)]))) .done))
 (.seq (.reg (tm 7 (.t 0) (tq 8 (.call 123 [(.t 7),(.c (.int .i64 3))]) (tm 3 (.t 8) .done))))
 (.seq (.reg (tq 9 (.bslice 1 [(.c (.str [110,111,116,101])),(.c (.str [112,111,114,116])),(.c (.str [115,119,105,116,99,104]))]) (tm 4 (.t 9) .done)))
 (.seq (.reg (tm 10 (.t 0) (tq 11 (.call 123 [(.t 10),(.c (.int .i64 10))]) (tq 12 (.bin .add (.c (.int .i64 1)) (.t 11)) (tq 13 (.bslice 1 [(.c (.int .i64 1)),(.c (.int .i64 1)),(.c (.int .i64 3)),(.c (.int .i64 4)),(.c (.int .i64 2)),(.c (.int .i64 5)),(.t 12)]) (tm 14 (.t 0) (tq 15 (.call 123 [(.t 14),(.c (.int .i64 7))]) (tq 16 (.iaddr 1 (.t 13) (.t 15)) (tq 17 (.load 1 false (.t 16)) (tq 18 (.build [(.int .i64 0),(.str []),(.str []),.nil,.nil,.nil,.nil,(.bool false)] [(0,1,(.t 17))]) (tq 5 (.box 8 (.c (.agg [(.int .i64 0),(.str []),(.str []),.nil,.nil,.nil,.nil,(.bool false)]))) (.q ⟨none,none,.store 8 (.t 5) (.t 18)⟩
 .done))))))))))))
 (.seq (.seq (.reg (tq 19 (.faddr 0 (.t 5)) (tq 20 (.load 1 false (.t 19)) (tq 21 (.call 158 [(.t 20),(.c (.int .i64 1)),(.c (.int .i64 6))]) .done))))
 (.cond (.t 21) (.reg (tm 22 (.t 4) (tm 23 (.t 3) (tq 24 (.iaddr 1 (.t 22) (.t 23)) (tq 25 (.load 1 false (.t 24)) (tq 26 (.faddr 1 (.t 5)) (.q ⟨none,none,.store 1 (.t 26) (.t 25)⟩
 .done)))))))
 .skip))
 (.cut (.seq (.seq (.reg (tq 27 (.faddr 0 (.t 5)) (tq 28 (.load 1 false (.t 27)) (tq 29 (.call 158 [(.t 28),(.c (.int .i64 2)),(.c (.int .i64 6))]) .done))))
 (.cond (.t 29) (.reg (tm 30 (.t 0) (tm 31 (.t 3) (tq 32 (.call 335 [(.t 30),(.t 31)]) (tq 33 (.faddr 3 (.t 5)) (.q ⟨none,none,.store 1 (.t 33) (.t 32)⟩
 .done))))))
 .skip))
 (.cut (.seq (.seq (.reg (tq 34 (.faddr 0 (.t 5)) (tq 35 (.load 1 false (.t 34)) .done)))
 (.block 0 (.seq (.reg (tq 37 (.bin .eql (.t 35) (.c (.int .i64 1))) (tm 36 (.t 37) .done)))
 (.cond (.t 36) (.seq (.reg (tm 38 (.t 0) (tm 39 (.t 3) (tq 40 (.call 221 [(.t 38),(.t 39)]) (tq 41 (.faddr 4 (.t 5)) (.q ⟨none,none,.store 1 (.t 41) (.t 40)⟩
 .done))))))
 (.reg (tm 42 (.t 0) (tq 43 (.bslice 1 [(.c (.str [])),(.c (.str [112])),(.c (.str [113]))]) (tq 44 (.call 334 [(.t 42),(.t 43)]) (tq 45 (.faddr 2 (.t 5)) (.q ⟨none,none,.store 1 (.t 45) (.t 44)⟩
 .done)))))))
 (.seq (.seq (.reg (tq 47 (.bin .eql (.t 35) (.c (.int .i64 3))) (tm 46 (.t 47) .done)))
 (.cond (.t 46) .skip
 (.reg (tq 48 (.bin .eql (.t 35) (.c (.int .i64 6))) (tm 46 (.t 48) .done)))))
 (.cut (.cond (.t 46) (.seq (.reg (tm 49 (.t 0) (tm 50 (.t 3) (tq 51 (.call 221 [(.t 49),(.t 50)]) (tq 52 (.faddr 4 (.t 5)) (.q ⟨none,none,.store 1 (.t 52) (.t 51)⟩
 .done))))))
 (.reg (tq 53 (.faddr 0 (.t 5)) (tq 54 (.load 1 false (.t 53)) (tq 55 (.bin .eql (.t 54) (.c (.int .i64 6))) (tm 56 (.t 55) (tg 57 56 true (.mov (.t 0)) (tg 58 56 true (.call 220 [(.t 57),(.c (.int .i64 2))]) (tq 59 (.pick (.t 56) (.t 58) (.c (.bool false))) (tq 60 (.faddr 7 (.t 5)) (.q ⟨none,none,.store 1 (.t 60) (.t 59)⟩
 .done)))))))))))
 (.seq (.reg (tq 62 (.bin .eql (.t 35) (.c (.int .i64 4))) (tm 61 (.t 62) .done)))
 (.cond (.t 61) (.seq (.reg (tm 63 (.t 0) (tq 64 (.call 123 [(.t 63),(.c (.int .i64 2))]) (tq 65 (.bin .add (.c (.int .i64 1)) (.t 64)) (tm 6 (.t 65) .done)))))
 (.block 1 (.loop (.seq (.seq (.reg (tm 66 (.t 6) (tq 67 (.bin .gtr (.t 66) (.c (.int .i64 0))) .done)))
 (.cond (.t 67) .skip
 (.exit 1)))
 (.seq (.block 2 (.reg (tq 70 (.faddr 5 (.t 5)) (tq 71 (.load 1 false (.t 70)) (tm 72 (.t 0) (tm 73 (.t 3) (.l ⟨(some 74),none,.call 124 [(.t 72),(.t 73)]⟩ [⟨(some 71),none,.load 1 false (.t 70)⟩,⟨(some 70),none,.faddr 5 (.t 5)⟩]
 (.l ⟨(some 75),none,.bslice 3 [(.t 74)]⟩ [⟨(some 71),none,.load 1 false (.t 70)⟩,⟨(some 70),none,.faddr 5 (.t 5)⟩]
 (.l ⟨(some 76),none,.append 3 48 (.t 71) (.t 75)⟩ []
 (tq 77 (.faddr 5 (.t 5)) (.l ⟨none,none,.store 1 (.t 77) (.t 76)⟩ []
 .done .non)) .non) .non) .non)))))))
 (.reg (tm 68 (.t 6) (tq 69 (.bin .sub (.t 68) (.c (.int .i64 1))) (tm 6 (.t 69) .done)))))))))
 (.seq (.reg (tq 79 (.bin .eql (.t 35) (.c (.int .i64 2))) (tm 78 (.t 79) .done)))
 (.cond (.t 78) (.reg (tm 80 (.t 0) (tm 81 (.t 3) (tq 82 (.call 336 [(.t 80),(.t 81)]) (tq 83 (.faddr 6 (.t 5)) (.q ⟨none,none,.store 1 (.t 83) (.t 82)⟩
 .done))))))
 (.seq (.reg (tq 85 (.bin .eql (.t 35) (.c (.int .i64 9))) (tm 84 (.t 85) .done)))
 (.cond (.t 84) (.reg (tq 86 (.faddr 2 (.t 5)) (.q ⟨none,none,.store 1 (.t 86) (.c (.str [115,97,105,100]))⟩
 .done)))
 (.seq (.reg (tq 88 (.bin .eql (.t 35) (.c (.int .i64 10))) (tm 87 (.t 88) .done)))
 (.cond (.t 87) (.reg (tm 89 (.t 0) (tq 90 (.bslice 1 [(.c (.str [108,111,99,107])),(.c (.str [111,116,104,101,114]))]) (tq 91 (.call 334 [(.t 89),(.t 90)]) (tq 92 (.faddr 2 (.t 5)) (.q ⟨none,none,.store 1 (.t 92) (.t 91)⟩
 .done))))))
 .skip)))))))))))))))
 (.cut (.seq (.reg (tq 93 (.load 8 true (.t 5)) (.q ⟨none,none,.store 8 (.t 2) (.t 93)⟩
 .done)))
 .ret)))))))))))
theorem d8k:a1e Tryz.prog Tryz.f222 = some (d3x.erase,[.load 8 true (.t 2)],94):=by kernel_rfl
def a4q (F:(Int × a0h)):Nat → Int → (List Int) → Int → Int → (List a5i) → Option ((List Int) × Int × Int × (List a5i))
  | 0,_,_,_,_,_ => none
  | k + 1,S,Aa,Ab,Ac,M =>
    if (decide (S > 0)) then
    (a9r F.1 (⟨Aa,Ab,Ac⟩:a0h)).bind fun G =>
    if (M ++ [G.1]).length ≤ 2 ^ 30 then
    a4q F k (w64 (S - 1)) G.2.Code G.2.At G.2.Seed (M ++ [G.1])
    else none
    else
    some (Aa,Ab,Ac,M)

def b0m (Z:a0h):Option (GOp × a0h) :=
    (a0z 3 Z).bind fun F =>
    (a0z 10 F.2).bind fun Y =>
    (a0z 7 Y.2).bind fun T =>
    if (0:Int) ≤ T.1 ∧ T.1 < (7:Int) then
    ([(1:Int),(1:Int),(3:Int),(4:Int),(2:Int),(5:Int),w64 (1 + Y.1)][(0 + T.1.toNat)]?).bind fun B =>
    (((a3f B 1 6).bind fun Ag =>
    if Ag then
    if (0:Int) ≤ F.1 ∧ F.1 < (3:Int) then
    ([[110,111,116,101],[112,111,114,116],[115,119,105,116,99,104]][(0 + F.1.toNat)]?).bind fun Ad =>
    some Ad
    else none
    else
    some []:Option Str)).bind fun D =>
    (((a3f B 2 6).bind fun Ah =>
    if Ah then
    (a7l F.1 T.2).bind fun R =>
    some (R.2.Code,R.2.At,R.2.Seed,R.1)
    else
    some (T.2.Code,T.2.At,T.2.Seed,[]):Option ((List Int) × Int × Int × (List a2v)))).bind fun p34 =>
    (match p34 with
    | (U,V,W,A) =>
    if (B == 1) then
    (a3w F.1 (⟨U,V,W⟩:a0h)).bind fun H =>
    (a4n [[],[112],[113]] H.2).bind fun N =>
    some ((⟨B,D,N.1,A,H.1,[],[],false⟩:GOp),N.2)
    else
    ((if (B == 3) then
    some true
    else
    some (B == 6):Option Bool)).bind fun Ae =>
    if Ae then
    (a3w F.1 (⟨U,V,W⟩:a0h)).bind fun E =>
    if (B == 6) then
    (a1r 2 E.2).bind fun K =>
    some ((⟨B,D,[],A,E.1,[],[],K.1⟩:GOp),K.2)
    else
    some ((⟨B,D,[],A,E.1,[],[],false⟩:GOp),E.2)
    else
    if (B == 4) then
    (a0z 2 (⟨U,V,W⟩:a0h)).bind fun P =>
    (a4q F FUEL (w64 (1 + P.1)) P.2.Code P.2.At P.2.Seed []).bind fun p84 =>
    (match p84 with
    | (Ai,Aj,Ak,Af) =>
    some ((⟨B,D,[],A,[],Af,[],false⟩:GOp),(⟨Ai,Aj,Ak⟩:a0h)))
    else
    if (B == 2) then
    (a6u F.1 (⟨U,V,W⟩:a0h)).bind fun J =>
    some ((⟨B,D,[],A,[],[],J.1,false⟩:GOp),J.2)
    else
    if (B == 9) then
    some ((⟨B,D,[115,97,105,100],A,[],[],[],false⟩:GOp),(⟨U,V,W⟩:a0h))
    else
    if (B == 10) then
    (a4n [[108,111,99,107],[111,116,104,101,114]] (⟨U,V,W⟩:a0h)).bind fun O =>
    some ((⟨B,D,O.1,A,[],[],[],false⟩:GOp),O.2)
    else
    some ((⟨B,D,[],A,[],[],[],false⟩:GOp),(⟨U,V,W⟩:a0h)))
    else none
theorem c1w (Z:a0h) (r:(GOp × a0h)) (hf:b0m Z = some r):a1u Tryz.prog false 222 [(.ptr 0 0 0)] [.box 3 (.agg [(.lst 1 (Z.Code.map a0c)),(.I Z.At),(.I Z.Seed)])] (.agg [(.I r.1.Kind),(.str r.1.Table),(.str r.1.Name),(.own 1 0 r.1.Where.length),(.own 2 0 r.1.Row.length),(.own 3 0 r.1.Muts.length),(.own 4 0 r.1.Columns.length),(.bool r.1.Until)]) [.box 3 (.agg [(.lst 1 (r.2.Code.map a0c)),(.I r.2.At),(.I r.2.Seed)]),.row 3 (r.1.Where.map a0d),.row 3 (r.1.Row.map a0f),.row 3 (r.1.Muts.map a0o),.row 1 (r.1.Columns.map AV.str)]:=by
 refine a1u.of_awp mixed Tryz.func222 d8k nle ?_;rw [a0n];unfold b0m at hf;unfold d3x;refine (show awp Tryz.prog false 1 _ (ofL [(0,(.ptr 0 0 0))]) [.box 3 (.agg [(.lst 1 (Z.Code.map a0c)),(.I Z.At),(.I Z.Seed)])] _ from ?_);refine sr<|x8 (a1j (j:=1) (c:=(.agg [(.I 0),(.str []),(.str []),.nil,.nil,.nil,.nil,(.bool false)])) rfl tr rfl rfl)<|dk<|sr<|?_
 obtain ⟨F,er3,hf⟩:=ob hf
 refine l7 (.ptr 0 0 0) rfl ?_;refine x8 (a0u (v:=(.I F.1)) (h2:=[.box 3 (.agg [(.lst 1 (F.2.Code.map a0c)),(.I F.2.At),(.I F.2.Seed)]),.box 8 (.agg [(.I 0),(.str []),(.str []),.nil,.nil,.nil,.nil,(.bool false)])]) [] [0] (fun _ => rfl) (a0p _ _ _ er3) rfl .r .r rfl rfl) ?_;refine l7 (.I F.1) rfl<|dk<|sr<|?_;refine x8 (a0t (j:=2) (as':=[(.str [110,111,116,101]),(.str [112,111,114,116]),(.str [115,119,105,116,99,104])]) rfl (fun _ => by decide) ⟨rfl,⟨rfl,⟨rfl,tr⟩⟩⟩ .r rfl rfl rfl) ?_;refine l7 (.own 2 0 3) rfl<|dk<|sr<|?_
 obtain ⟨Y,er5,hf⟩:=ob hf
 obtain ⟨T,er7,hf⟩:=ob hf
 obtain ⟨g8,hf⟩:=og hf
 obtain ⟨B,ex10,hf⟩:=ob hf
 refine l7 (.ptr 0 0 0) rfl ?_;refine x8 (a0u (v:=(.I Y.1)) (h2:=[.box 3 (.agg [(.lst 1 (Y.2.Code.map a0c)),(.I Y.2.At),(.I Y.2.Seed)]),.box 8 (.agg [(.I 0),(.str []),(.str []),.nil,.nil,.nil,.nil,(.bool false)]),.row 1 ([[110,111,116,101],[112,111,114,116],[115,119,105,116,99,104]].map AV.str)]) [] [0] (fun _ => rfl) (a0p _ _ _ er5) rfl .r .r rfl rfl) ?_;refine o8 (.I (w64 (1 + Y.1))) rfl rfl rfl ?_;refine x8 (a0t (j:=3) (as':=[(.I 1),(.I 1),(.I 3),(.I 4),(.I 2),(.I 5),(.I (w64 (1 + Y.1)))]) rfl (fun _ => by decide) ⟨rfl,⟨rfl,⟨rfl,⟨rfl,⟨rfl,⟨rfl,⟨rfl,tr⟩⟩⟩⟩⟩⟩⟩ .r rfl rfl rfl) ?_
 refine l7 (.ptr 0 0 0) rfl ?_;refine x8 (a0u (v:=(.I T.1)) (h2:=[.box 3 (.agg [(.lst 1 (T.2.Code.map a0c)),(.I T.2.At),(.I T.2.Seed)]),.box 8 (.agg [(.I 0),(.str []),(.str []),.nil,.nil,.nil,.nil,(.bool false)]),.row 1 ([[110,111,116,101],[112,111,114,116],[115,119,105,116,99,104]].map AV.str),.row 1 ([(1:Int),(1:Int),(3:Int),(4:Int),(2:Int),(5:Int),w64 (1 + Y.1)].map encI)]) [] [0] (fun _ => rfl) (a0p _ _ _ er7) rfl .r .r rfl rfl) ?_;refine x8 (a4i rfl rfl g8.1 g8.2 rfl rfl)<|x8 (a5l (enc:=encI) (v:=(.I B)) rfl rfl ex10 ⟨rfl,rfl⟩ rfl)<|o8 (.agg [(.I B),(.str []),(.str []),.nil,.nil,.nil,.nil,(.bool false)]) rfl ⟨⟨rfl,nle,tr⟩,tr⟩ rfl<|?_
 refine x8 (a1j (j:=4) (c:=(.agg [(.I 0),(.str []),(.str []),.nil,.nil,.nil,.nil,(.bool false)])) rfl tr rfl rfl)<|a3o (a0e (v:=(.agg [(.I B),(.str []),(.str []),.nil,.nil,.nil,.nil,(.bool false)])) (y':=(.agg [(.I B),(.str []),(.str []),.nil,.nil,.nil,.nil,(.bool false)])) rfl rfl rfl tr ⟨rfl,nle⟩ ⟨⟨rfl,tr⟩,⟨⟨rfl,tr⟩,⟨⟨rfl,tr⟩,⟨⟨rfl,tr⟩,⟨⟨rfl,tr⟩,⟨⟨rfl,tr⟩,⟨⟨rfl,tr⟩,⟨⟨rfl,tr⟩,tr⟩⟩⟩⟩⟩⟩⟩⟩ rfl)<|dk<|o7<|?_
 obtain ⟨D,hb1,hf⟩:=ob hf
 refine a1k ([(0,(.ptr 0 0 0)),(2,(.ptr 1 0 0)),(3,(.I F.1)),(5,(.ptr 2 0 0))],[.box 3 (.agg [(.lst 1 (T.2.Code.map a0c)),(.I T.2.At),(.I T.2.Seed)]),.box 8 (.agg [(.I 0),(.str []),(.str []),.nil,.nil,.nil,.nil,(.bool false)]),.box 8 (.agg [(.I B),(.str D),(.str []),.nil,.nil,.nil,.nil,(.bool false)])]) ?_ ?_
 ·refine sr<|?_
  obtain ⟨Ag,er20,hb1⟩:=ob hb1
  refine o8 (.ptr 4 0 0) rfl tr rfl<|o8 (.I B) rfl nle rfl<|x8 (a0j (a2f _ _ _ _ er20) rfl .r rfl)<|dk<|?_
  rcases oi hb1 with ⟨c21,hb1⟩ | ⟨c21,hb1⟩
  ·refine y8 rfl c21<|a0r<|?_
   obtain ⟨g22,hb1⟩:=og hb1
   obtain ⟨Ad,ex24,hb1⟩:=ob hb1
   refine l7 (.own 2 0 3) rfl<|l7 (.I F.1) rfl<|x8 (a4i rfl rfl g22.1 g22.2 rfl rfl)<|x8 (a5l (enc:=AV.str) (v:=(.str Ad)) rfl rfl ex24 ⟨rfl,rfl⟩ rfl)<|o8 (.ptr 4 0 1) rfl tr rfl<|a3o (a0e (v:=(.str Ad)) (y':=(.agg [(.I B),(.str Ad),(.str []),.nil,.nil,.nil,.nil,(.bool false)])) rfl rfl rfl tr ⟨rfl,nle⟩ ⟨⟨rfl,tr⟩,tr⟩ rfl)<|y5<|?_;obtain rfl:=os hb1;exact ⟨[],[0,1,4],_,_,rfl,rfl,⟨.r,⟨.r,⟨.r,⟨.r,tr⟩⟩⟩⟩,.r⟩
  ·refine y9 rfl (bf c21)<|a0k<|?_;obtain rfl:=os hb1;exact ⟨[],[0,1,4],_,_,rfl,rfl,⟨.r,⟨.r,⟨.r,⟨.r,tr⟩⟩⟩⟩,.r⟩
 ·refine o7 ?_
  obtain ⟨p34,hb1,hf⟩:=ob hf
  refine a1k ([(0,(.ptr 0 0 0)),(2,(.ptr 1 0 0)),(3,(.I F.1)),(5,(.ptr 2 0 0))],[.box 3 (.agg [(.lst 1 (p34.1.map a0c)),(.I p34.2.1),(.I p34.2.2.1)]),.box 8 (.agg [(.I 0),(.str []),(.str []),.nil,.nil,.nil,.nil,(.bool false)]),.box 8 (.agg [(.I B),(.str D),(.str []),(.own 3 0 p34.2.2.2.length),.nil,.nil,.nil,(.bool false)]),.row 3 (p34.2.2.2.map a0d)]) ?_ ?_
  ·refine sr<|?_
   obtain ⟨Ah,er36,hb1⟩:=ob hb1
   refine o8 (.ptr 2 0 0) rfl tr rfl<|o8 (.I B) rfl nle rfl<|x8 (a0j (a2f _ _ _ _ er36) rfl .r rfl)<|dk<|?_
   rcases oi hb1 with ⟨c37,hb1⟩ | ⟨c37,hb1⟩
   ·refine y8 rfl c37<|a0r<|?_
    obtain ⟨R,er39,hb1⟩:=ob hb1
    refine l7 (.ptr 0 0 0) rfl<|l7 (.I F.1) rfl<|?_;refine x8 (a0u (v:=(.own 3 0 R.1.length)) (h2:=[.box 3 (.agg [(.lst 1 (R.2.Code.map a0c)),(.I R.2.At),(.I R.2.Seed)]),.box 8 (.agg [(.I 0),(.str []),(.str []),.nil,.nil,.nil,.nil,(.bool false)]),.box 8 (.agg [(.I B),(.str D),(.str []),.nil,.nil,.nil,.nil,(.bool false)]),.row 3 (R.1.map a0d)]) [] [0] (fun _ => rfl) (b8o _ _ _ er39) rfl .r .r rfl rfl) ?_;refine o8 (.ptr 2 0 3) rfl tr rfl<|a3o (a0e (v:=(.own 3 0 R.1.length)) (y':=(.agg [(.I B),(.str D),(.str []),(.own 3 0 R.1.length),.nil,.nil,.nil,(.bool false)])) rfl rfl rfl tr ⟨rfl,nle⟩ ⟨⟨rfl,tr⟩,tr⟩ rfl)<|?_
    refine y5 ?_;obtain rfl:=os hb1;exact ⟨[],[0,1,2,3],_,_,rfl,rfl,⟨.r,⟨.r,⟨.r,⟨.r,tr⟩⟩⟩⟩,.r⟩
   ·refine y9 rfl (bf c37)<|a0k<|?_;obtain rfl:=os hb1;exact ⟨[.nilC 2 3 3],[0,1,2,3],_,_,rfl,rfl,⟨.r,⟨.r,⟨.r,⟨.r,tr⟩⟩⟩⟩,.r⟩
  ·obtain ⟨U,V,W,A⟩:=p34
   refine o7<|sr<|o8 (.ptr 2 0 0) rfl tr rfl<|o8 (.I B) rfl nle rfl<|dk<|a3y<|sr<|o8 (.bool (B == 1)) rfl rfl rfl<|l7 (.bool (B == 1)) rfl<|dk<|?_
   rcases oi hf with ⟨c40,hf⟩ | ⟨c40,hf⟩
   ·refine y8 rfl c40<|sr<|?_
    obtain ⟨H,er42,hf⟩:=ob hf
    refine l7 (.ptr 0 0 0) rfl<|l7 (.I F.1) rfl<|?_;refine x8 (a0u (v:=(.own 4 0 H.1.length)) (h2:=[.box 3 (.agg [(.lst 1 (H.2.Code.map a0c)),(.I H.2.At),(.I H.2.Seed)]),.box 8 (.agg [(.I 0),(.str []),(.str []),.nil,.nil,.nil,.nil,(.bool false)]),.box 8 (.agg [(.I B),(.str D),(.str []),(.own 3 0 A.length),.nil,.nil,.nil,(.bool false)]),.row 3 (A.map a0d),.row 3 (H.1.map a0f)]) [] [0] (fun _ => rfl) (a8f _ _ _ er42) rfl .r .r rfl rfl) ?_;refine o8 (.ptr 2 0 4) rfl tr rfl<|a3o (a0e (v:=(.own 4 0 H.1.length)) (y':=(.agg [(.I B),(.str D),(.str []),(.own 3 0 A.length),(.own 4 0 H.1.length),.nil,.nil,(.bool false)])) rfl rfl rfl tr ⟨rfl,nle⟩ ⟨⟨rfl,tr⟩,tr⟩ rfl)<|?_
    refine dk<|a0r<|?_
    obtain ⟨N,er44,hf⟩:=ob hf
    refine l7 (.ptr 0 0 0) rfl ?_;refine x8 (a0t (j:=5) (as':=[(.str []),(.str [112]),(.str [113])]) rfl (fun _ => by decide) ⟨rfl,⟨rfl,⟨rfl,tr⟩⟩⟩ .r rfl rfl rfl) ?_;refine x8 (a0u (v:=(.str N.1)) (h2:=[.box 3 (.agg [(.lst 1 (N.2.Code.map a0c)),(.I N.2.At),(.I N.2.Seed)]),.box 8 (.agg [(.I 0),(.str []),(.str []),.nil,.nil,.nil,.nil,(.bool false)]),.box 8 (.agg [(.I B),(.str D),(.str []),(.own 3 0 A.length),(.own 4 0 H.1.length),.nil,.nil,(.bool false)]),.row 3 (A.map a0d),.row 3 (H.1.map a0f),.dead]) [false,true] [0] (fun h => absurd (show false = true from h) (by decide)) (a8e _ _ _ er44) rfl (.cons .r (.cons (.of_eq (congrArg (AV.lst _) (tko [[],[112],[113]]))) .nil)) .r rfl rfl) ?_
    refine o8 (.ptr 2 0 2) rfl tr rfl<|a3o (a0e (v:=(.str N.1)) (y':=(.agg [(.I B),(.str D),(.str N.1),(.own 3 0 A.length),(.own 4 0 H.1.length),.nil,.nil,(.bool false)])) rfl rfl rfl tr ⟨rfl,nle⟩ ⟨⟨rfl,tr⟩,tr⟩ rfl)<|y5<|a2y<|a0m<|c4u ([(2,(.ptr 1 0 0)),(5,(.ptr 2 0 0))],[.box 3 (.agg [(.lst 1 (N.2.Code.map a0c)),(.I N.2.At),(.I N.2.Seed)]),.box 8 (.agg [(.I 0),(.str []),(.str []),.nil,.nil,.nil,.nil,(.bool false)]),.box 8 (.agg [(.I B),(.str D),(.str N.1),(.own 3 0 A.length),(.own 4 0 H.1.length),.nil,.nil,(.bool false)]),.row 3 (A.map a0d),.row 3 (H.1.map a0f)]) ⟨[],[0,1,2,3,4],_,_,rfl,rfl,⟨.r,⟨.r,tr⟩⟩,.r⟩<|?_
    refine sr<|o8 (.agg [(.I B),(.str D),(.str N.1),(.own 3 0 A.length),(.own 4 0 H.1.length),.nil,.nil,(.bool false)]) rfl nle rfl<|a3o (a0e (v:=(.agg [(.I B),(.str D),(.str N.1),(.own 3 0 A.length),(.own 4 0 H.1.length),.nil,.nil,(.bool false)])) (y':=(.agg [(.I B),(.str D),(.str N.1),(.own 3 0 A.length),(.own 4 0 H.1.length),.nil,.nil,(.bool false)])) rfl rfl rfl tr ⟨rfl,nle⟩ ⟨⟨rfl,tr⟩,⟨⟨rfl,tr⟩,⟨⟨rfl,tr⟩,⟨⟨rfl,tr⟩,⟨⟨rfl,tr⟩,⟨⟨rfl,tr⟩,⟨⟨rfl,tr⟩,⟨⟨rfl,tr⟩,tr⟩⟩⟩⟩⟩⟩⟩⟩ rfl)<|dk<|a0b<|?_;obtain rfl:=os hf;exact a3u [.nilC 1 5 3,.nilC 1 6 1] [0,3,4,5,6] rfl ⟨nle,tr⟩ rfl .r .r
   ·refine y9 rfl (bf c40)<|o7<|?_
    obtain ⟨Ae,hb1,hf⟩:=ob hf
    refine a1k ([(0,(.ptr 0 0 0)),(2,(.ptr 1 0 0)),(3,(.I F.1)),(5,(.ptr 2 0 0)),(35,(.I B)),(46,(.bool Ae))],[.box 3 (.agg [(.lst 1 (U.map a0c)),(.I V),(.I W)]),.box 8 (.agg [(.I 0),(.str []),(.str []),.nil,.nil,.nil,.nil,(.bool false)]),.box 8 (.agg [(.I B),(.str D),(.str []),(.own 3 0 A.length),.nil,.nil,.nil,(.bool false)]),.row 3 (A.map a0d)]) ?_ ?_
    ·refine sr<|o8 (.bool (B == 3)) rfl rfl rfl<|l7 (.bool (B == 3)) rfl<|dk<|?_
     rcases oi hb1 with ⟨c48,hb1⟩ | ⟨c48,hb1⟩
     ·refine y8 rfl c48<|a0k<|?_;obtain rfl:=os hb1;exact ⟨[],[0,1,2,3],_,_,rfl,rfl,⟨.r,⟨.r,⟨.r,⟨.r,⟨.r,⟨.r,tr⟩⟩⟩⟩⟩⟩,.r⟩
     ·refine y9 rfl (bf c48)<|a0r<|o8 (.bool (B == 6)) rfl rfl rfl<|l7 (.bool (B == 6)) rfl<|y5<|?_;obtain rfl:=os hb1;exact ⟨[],[0,1,2,3],_,_,rfl,rfl,⟨.r,⟨.r,⟨.r,⟨.r,⟨.r,⟨.r,tr⟩⟩⟩⟩⟩⟩,.r⟩
    ·rcases oi hf with ⟨c49,hf⟩ | ⟨c49,hf⟩
     ·refine y8 rfl c49<|sr<|?_
      obtain ⟨E,er51,hf⟩:=ob hf
      refine l7 (.ptr 0 0 0) rfl<|l7 (.I F.1) rfl<|?_;refine x8 (a0u (v:=(.own 4 0 E.1.length)) (h2:=[.box 3 (.agg [(.lst 1 (E.2.Code.map a0c)),(.I E.2.At),(.I E.2.Seed)]),.box 8 (.agg [(.I 0),(.str []),(.str []),.nil,.nil,.nil,.nil,(.bool false)]),.box 8 (.agg [(.I B),(.str D),(.str []),(.own 3 0 A.length),.nil,.nil,.nil,(.bool false)]),.row 3 (A.map a0d),.row 3 (E.1.map a0f)]) [] [0] (fun _ => rfl) (a8f _ _ _ er51) rfl .r .r rfl rfl) ?_;refine o8 (.ptr 2 0 4) rfl tr rfl<|a3o (a0e (v:=(.own 4 0 E.1.length)) (y':=(.agg [(.I B),(.str D),(.str []),(.own 3 0 A.length),(.own 4 0 E.1.length),.nil,.nil,(.bool false)])) rfl rfl rfl tr ⟨rfl,nle⟩ ⟨⟨rfl,tr⟩,tr⟩ rfl)<|?_
      refine dk<|a0r<|?_
      rcases oi hf with ⟨c52,hf⟩ | ⟨c52,hf⟩
      ·obtain ⟨K,er54,hf⟩:=ob hf
       refine o8 (.ptr 2 0 0) rfl tr rfl<|o8 (.I B) rfl nle rfl<|o8 (.bool (B == 6)) rfl rfl rfl<|l7 (.bool (B == 6)) rfl<|a0i (s:=56) (b:=true) rfl c52<|s_on rfl<|l7 (.ptr 0 0 0) rfl<|s_on rfl<|?_;refine x8 (a0u (v:=(.bool K.1)) (h2:=[.box 3 (.agg [(.lst 1 (K.2.Code.map a0c)),(.I K.2.At),(.I K.2.Seed)]),.box 8 (.agg [(.I 0),(.str []),(.str []),.nil,.nil,.nil,.nil,(.bool false)]),.box 8 (.agg [(.I B),(.str D),(.str []),(.own 3 0 A.length),(.own 4 0 E.1.length),.nil,.nil,(.bool false)]),.row 3 (A.map a0d),.row 3 (E.1.map a0f)]) [] [0] (fun _ => rfl) (a1w _ _ _ er54) rfl .r .r rfl rfl) ?_
       refine o8 (.bool K.1) rfl tr rfl<|o8 (.ptr 2 0 7) rfl tr rfl<|a3o (a0e (v:=(.bool K.1)) (y':=(.agg [(.I B),(.str D),(.str []),(.own 3 0 A.length),(.own 4 0 E.1.length),.nil,.nil,(.bool K.1)])) rfl rfl rfl tr ⟨rfl,nle⟩ ⟨⟨rfl,tr⟩,tr⟩ rfl)<|y5<|a2y<|a0m<|c4u ([(2,(.ptr 1 0 0)),(5,(.ptr 2 0 0))],[.box 3 (.agg [(.lst 1 (K.2.Code.map a0c)),(.I K.2.At),(.I K.2.Seed)]),.box 8 (.agg [(.I 0),(.str []),(.str []),.nil,.nil,.nil,.nil,(.bool false)]),.box 8 (.agg [(.I B),(.str D),(.str []),(.own 3 0 A.length),(.own 4 0 E.1.length),.nil,.nil,(.bool K.1)]),.row 3 (A.map a0d),.row 3 (E.1.map a0f)]) ⟨[],[0,1,2,3,4],_,_,rfl,rfl,⟨.r,⟨.r,tr⟩⟩,.r⟩<|?_
       refine sr<|o8 (.agg [(.I B),(.str D),(.str []),(.own 3 0 A.length),(.own 4 0 E.1.length),.nil,.nil,(.bool K.1)]) rfl nle rfl<|a3o (a0e (v:=(.agg [(.I B),(.str D),(.str []),(.own 3 0 A.length),(.own 4 0 E.1.length),.nil,.nil,(.bool K.1)])) (y':=(.agg [(.I B),(.str D),(.str []),(.own 3 0 A.length),(.own 4 0 E.1.length),.nil,.nil,(.bool K.1)])) rfl rfl rfl tr ⟨rfl,nle⟩ ⟨⟨rfl,tr⟩,⟨⟨rfl,tr⟩,⟨⟨rfl,tr⟩,⟨⟨rfl,tr⟩,⟨⟨rfl,tr⟩,⟨⟨rfl,tr⟩,⟨⟨rfl,tr⟩,⟨⟨rfl,tr⟩,tr⟩⟩⟩⟩⟩⟩⟩⟩ rfl)<|dk<|a0b<|?_;obtain rfl:=os hf;exact a3u [.nilC 1 5 3,.nilC 1 6 1] [0,3,4,5,6] rfl ⟨nle,tr⟩ rfl .r .r
      ·refine o8 (.ptr 2 0 0) rfl tr rfl<|o8 (.I B) rfl nle rfl<|o8 (.bool (B == 6)) rfl rfl rfl<|l7 (.bool (B == 6)) rfl<|a0i (s:=56) (b:=false) rfl (bf c52)<|o6 rfl rfl<|o6 rfl rfl<|o8 (.bool false) rfl tr rfl<|o8 (.ptr 2 0 7) rfl tr rfl<|a3o (a0e (v:=(.bool false)) (y':=(.agg [(.I B),(.str D),(.str []),(.own 3 0 A.length),(.own 4 0 E.1.length),.nil,.nil,(.bool false)])) rfl rfl rfl tr ⟨rfl,nle⟩ ⟨⟨rfl,tr⟩,tr⟩ rfl)<|y5<|a2y<|a0m<|c4u ([(2,(.ptr 1 0 0)),(5,(.ptr 2 0 0))],[.box 3 (.agg [(.lst 1 (E.2.Code.map a0c)),(.I E.2.At),(.I E.2.Seed)]),.box 8 (.agg [(.I 0),(.str []),(.str []),.nil,.nil,.nil,.nil,(.bool false)]),.box 8 (.agg [(.I B),(.str D),(.str []),(.own 3 0 A.length),(.own 4 0 E.1.length),.nil,.nil,(.bool false)]),.row 3 (A.map a0d),.row 3 (E.1.map a0f)]) ⟨[],[0,1,2,3,4],_,_,rfl,rfl,⟨.r,⟨.r,tr⟩⟩,.r⟩<|?_
       refine sr<|o8 (.agg [(.I B),(.str D),(.str []),(.own 3 0 A.length),(.own 4 0 E.1.length),.nil,.nil,(.bool false)]) rfl nle rfl<|a3o (a0e (v:=(.agg [(.I B),(.str D),(.str []),(.own 3 0 A.length),(.own 4 0 E.1.length),.nil,.nil,(.bool false)])) (y':=(.agg [(.I B),(.str D),(.str []),(.own 3 0 A.length),(.own 4 0 E.1.length),.nil,.nil,(.bool false)])) rfl rfl rfl tr ⟨rfl,nle⟩ ⟨⟨rfl,tr⟩,⟨⟨rfl,tr⟩,⟨⟨rfl,tr⟩,⟨⟨rfl,tr⟩,⟨⟨rfl,tr⟩,⟨⟨rfl,tr⟩,⟨⟨rfl,tr⟩,⟨⟨rfl,tr⟩,tr⟩⟩⟩⟩⟩⟩⟩⟩ rfl)<|dk<|a0b<|?_;obtain rfl:=os hf;exact a3u [.nilC 1 5 3,.nilC 1 6 1] [0,3,4,5,6] rfl ⟨nle,tr⟩ rfl .r .r
     ·refine y9 rfl (bf c49)<|sr<|o8 (.bool (B == 4)) rfl rfl rfl<|l7 (.bool (B == 4)) rfl<|dk<|?_
      rcases oi hf with ⟨c55,hf⟩ | ⟨c55,hf⟩
      ·refine y8 rfl c55<|sr<|?_
       obtain ⟨P,er57,hf⟩:=ob hf
       refine l7 (.ptr 0 0 0) rfl ?_;refine x8 (a0u (v:=(.I P.1)) (h2:=[.box 3 (.agg [(.lst 1 (P.2.Code.map a0c)),(.I P.2.At),(.I P.2.Seed)]),.box 8 (.agg [(.I 0),(.str []),(.str []),.nil,.nil,.nil,.nil,(.bool false)]),.box 8 (.agg [(.I B),(.str D),(.str []),(.own 3 0 A.length),.nil,.nil,.nil,(.bool false)]),.row 3 (A.map a0d)]) [] [0] (fun _ => rfl) (a0p _ _ _ er57) rfl .r .r rfl rfl) ?_;refine o8 (.I (w64 (1 + P.1))) rfl rfl rfl<|l7 (.I (w64 (1 + P.1))) rfl<|dk<|?_
       obtain ⟨p84,hb1,hf⟩:=ob hf
       refine d7o ([(2,(.ptr 1 0 0)),(5,(.ptr 2 0 0))],[.box 3 (.agg [(.lst 1 (p84.1.map a0c)),(.I p84.2.1),(.I p84.2.2.1)]),.box 8 (.agg [(.I 0),(.str []),(.str []),.nil,.nil,.nil,.nil,(.bool false)]),.box 8 (.agg [(.I B),(.str D),(.str []),(.own 3 0 A.length),.nil,(.own 4 0 p84.2.2.2.length),.nil,(.bool false)]),.row 3 (A.map a0d),.row 3 (p84.2.2.2.map a0o)]) ?_ ?_
       ·refine a1v (X:={q:(Nat × Int × (List Int) × Int × Int × (List a5i)) // a4q F q.1 q.2.1 q.2.2.1 q.2.2.2.1 q.2.2.2.2.1 q.2.2.2.2.2 = some p84}) (fun q => ([(0,(.ptr 0 0 0)),(2,(.ptr 1 0 0)),(3,(.I F.1)),(5,(.ptr 2 0 0)),(6,(.I q.1.2.1))],[.box 3 (.agg [(.lst 1 (q.1.2.2.1.map a0c)),(.I q.1.2.2.2.1),(.I q.1.2.2.2.2.1)]),.box 8 (.agg [(.I 0),(.str []),(.str []),.nil,.nil,.nil,.nil,(.bool false)]),.box 8 (.agg [(.I B),(.str D),(.str []),(.own 3 0 A.length),.nil,(.own 4 0 q.1.2.2.2.2.2.length),.nil,(.bool false)]),.row 3 (A.map a0d),.row 3 (q.1.2.2.2.2.2.map a0o)])) (fun q => q.1.1) ⟨(FUEL,w64 (1 + P.1),P.2.Code,P.2.At,P.2.Seed,[]),hb1⟩ ⟨[.nilC 2 5 3],[0,1,2,3,4],_,_,rfl,rfl,⟨.r,⟨.r,⟨.r,⟨.r,⟨.r,tr⟩⟩⟩⟩⟩,.r⟩ ?_
        rintro ⟨⟨k,S,Aa,Ab,Ac,M⟩,hc1⟩
        have hc1:a4q F k S Aa Ab Ac M = some p84:=hc1
        refine (show awp Tryz.prog false 1 _ (ofL [(0,(.ptr 0 0 0)),(2,(.ptr 1 0 0)),(3,(.I F.1)),(5,(.ptr 2 0 0)),(6,(.I S))]) [.box 3 (.agg [(.lst 1 (Aa.map a0c)),(.I Ab),(.I Ac)]),.box 8 (.agg [(.I 0),(.str []),(.str []),.nil,.nil,.nil,.nil,(.bool false)]),.box 8 (.agg [(.I B),(.str D),(.str []),(.own 3 0 A.length),.nil,(.own 4 0 M.length),.nil,(.bool false)]),.row 3 (A.map a0d),.row 3 (M.map a0o)] _ from ?_)
        rcases k with _ | k
        ·rw [a4q.eq_1] at hc1
         cases hc1
        ·rw [a4q.eq_2] at hc1;refine o7<|sr<|l7 (.I S) rfl<|o8 (.bool (decide (S > 0))) rfl rfl rfl<|dk<|?_
         rcases oi hc1 with ⟨c85,hc1⟩ | ⟨c85,hc1⟩
         ·refine y8 rfl c85<|a0k<|a0m<|o7<|a3y<|a0r<|?_
          obtain ⟨G,er87,hc1⟩:=ob hc1
          obtain ⟨g88,hc1⟩:=og hc1
          refine o8 (.ptr 2 0 5) rfl tr rfl<|o8 (.own 4 0 M.length) rfl nle rfl<|l7 (.ptr 0 0 0) rfl<|l7 (.I F.1) rfl<|?_;refine a1a (a0u (v:=(a0o G.1)) (h2:=[.box 3 (.agg [(.lst 1 (G.2.Code.map a0c)),(.I G.2.At),(.I G.2.Seed)]),.box 8 (.agg [(.I 0),(.str []),(.str []),.nil,.nil,.nil,.nil,(.bool false)]),.box 8 (.agg [(.I B),(.str D),(.str []),(.own 3 0 A.length),.nil,(.own 4 0 M.length),.nil,(.bool false)]),.row 3 (A.map a0d),.row 3 (M.map a0o)]) [] [0] (fun _ => rfl) (c0r _ _ _ er87) rfl .r .r rfl rfl) (.inr ⟨⟨nle,rfl⟩,⟨⟨tr,rfl⟩,tr⟩⟩) tr ?_
          refine a1a (a0t (j:=5) (as':=[(a0o G.1)]) rfl (fun _ => by decide) ⟨rfl,tr⟩ .r rfl rfl rfl) (.inr ⟨⟨nle,rfl⟩,⟨⟨tr,rfl⟩,tr⟩⟩) tr ?_
          refine a1a (a5m (j:=6) (L:=((M ++ [G.1]).map a0o)) (len:=(M ++ [G.1]).length) rfl rfl (c6g (enc:=a0o) M [G.1] _ (by rfl)) (by simp <;> omega) g88 rfl rfl) tr tr ?_
          refine o8 (.ptr 2 0 5) rfl tr rfl<|a4h (a0e (v:=(.own 6 0 ((M ++ [G.1]).length))) (y':=(.agg [(.I B),(.str D),(.str []),(.own 3 0 A.length),.nil,(.own 6 0 ((M ++ [G.1]).length)),.nil,(.bool false)])) rfl rfl rfl tr ⟨rfl,nle⟩ ⟨⟨rfl,tr⟩,tr⟩ rfl) tr tr<|y5<|a2y<|a0m<|a0r<|l7 (.I S) rfl<|o8 (.I (w64 (S - 1))) rfl rfl rfl<|l7 (.I (w64 (S - 1))) rfl<|y5<|?_;exact a1z ⟨(k,w64 (S - 1),G.2.Code,G.2.At,G.2.Seed,M ++ [G.1]),hc1⟩ (Nat.lt_succ_self _) ⟨[],[0,1,2,3,6],_,_,rfl,rfl,⟨.r,⟨.r,⟨.r,⟨.r,⟨.r,tr⟩⟩⟩⟩⟩,.r⟩
         ·refine y9 rfl (bf c85)<|a3i<|a3h<|a2e<|a3g<|?_;refine a2y ?_;obtain rfl:=os hc1;exact ⟨[],[0,1,2,3,4],_,_,rfl,rfl,⟨.r,⟨.r,tr⟩⟩,.r⟩
       ·obtain ⟨Ai,Aj,Ak,Af⟩:=p84
        refine sr<|o8 (.agg [(.I B),(.str D),(.str []),(.own 3 0 A.length),.nil,(.own 4 0 Af.length),.nil,(.bool false)]) rfl nle rfl<|a3o (a0e (v:=(.agg [(.I B),(.str D),(.str []),(.own 3 0 A.length),.nil,(.own 4 0 Af.length),.nil,(.bool false)])) (y':=(.agg [(.I B),(.str D),(.str []),(.own 3 0 A.length),.nil,(.own 4 0 Af.length),.nil,(.bool false)])) rfl rfl rfl tr ⟨rfl,nle⟩ ⟨⟨rfl,tr⟩,⟨⟨rfl,tr⟩,⟨⟨rfl,tr⟩,⟨⟨rfl,tr⟩,⟨⟨rfl,tr⟩,⟨⟨rfl,tr⟩,⟨⟨rfl,tr⟩,⟨⟨rfl,tr⟩,tr⟩⟩⟩⟩⟩⟩⟩⟩ rfl)<|dk<|a0b<|?_;obtain rfl:=os hf;exact a3u [.nilC 1 4 3,.nilC 1 6 1] [0,3,5,4,6] rfl ⟨nle,tr⟩ rfl .r .r
      ·refine y9 rfl (bf c55)<|sr<|o8 (.bool (B == 2)) rfl rfl rfl<|l7 (.bool (B == 2)) rfl<|dk<|?_
       rcases oi hf with ⟨c89,hf⟩ | ⟨c89,hf⟩
       ·refine y8 rfl c89<|a0r<|?_
        obtain ⟨J,er91,hf⟩:=ob hf
        refine l7 (.ptr 0 0 0) rfl<|l7 (.I F.1) rfl<|?_;refine x8 (a0u (v:=(.own 4 0 J.1.length)) (h2:=[.box 3 (.agg [(.lst 1 (J.2.Code.map a0c)),(.I J.2.At),(.I J.2.Seed)]),.box 8 (.agg [(.I 0),(.str []),(.str []),.nil,.nil,.nil,.nil,(.bool false)]),.box 8 (.agg [(.I B),(.str D),(.str []),(.own 3 0 A.length),.nil,.nil,.nil,(.bool false)]),.row 3 (A.map a0d),.row 1 (J.1.map AV.str)]) [] [0] (fun _ => rfl) (b6j _ _ _ er91) rfl .r .r rfl rfl) ?_;refine o8 (.ptr 2 0 6) rfl tr rfl<|a3o (a0e (v:=(.own 4 0 J.1.length)) (y':=(.agg [(.I B),(.str D),(.str []),(.own 3 0 A.length),.nil,.nil,(.own 4 0 J.1.length),(.bool false)])) rfl rfl rfl tr ⟨rfl,nle⟩ ⟨⟨rfl,tr⟩,tr⟩ rfl)<|?_
        refine y5<|a2y<|a0m<|c4u ([(2,(.ptr 1 0 0)),(5,(.ptr 2 0 0))],[.box 3 (.agg [(.lst 1 (J.2.Code.map a0c)),(.I J.2.At),(.I J.2.Seed)]),.box 8 (.agg [(.I 0),(.str []),(.str []),.nil,.nil,.nil,.nil,(.bool false)]),.box 8 (.agg [(.I B),(.str D),(.str []),(.own 3 0 A.length),.nil,.nil,(.own 4 0 J.1.length),(.bool false)]),.row 3 (A.map a0d),.row 1 (J.1.map AV.str)]) ⟨[],[0,1,2,3,4],_,_,rfl,rfl,⟨.r,⟨.r,tr⟩⟩,.r⟩<|sr<|o8 (.agg [(.I B),(.str D),(.str []),(.own 3 0 A.length),.nil,.nil,(.own 4 0 J.1.length),(.bool false)]) rfl nle rfl<|?_
        refine a3o (a0e (v:=(.agg [(.I B),(.str D),(.str []),(.own 3 0 A.length),.nil,.nil,(.own 4 0 J.1.length),(.bool false)])) (y':=(.agg [(.I B),(.str D),(.str []),(.own 3 0 A.length),.nil,.nil,(.own 4 0 J.1.length),(.bool false)])) rfl rfl rfl tr ⟨rfl,nle⟩ ⟨⟨rfl,tr⟩,⟨⟨rfl,tr⟩,⟨⟨rfl,tr⟩,⟨⟨rfl,tr⟩,⟨⟨rfl,tr⟩,⟨⟨rfl,tr⟩,⟨⟨rfl,tr⟩,⟨⟨rfl,tr⟩,tr⟩⟩⟩⟩⟩⟩⟩⟩ rfl)<|dk<|a0b<|?_;obtain rfl:=os hf;exact a3u [.nilC 1 4 3,.nilC 1 5 3] [0,3,5,6,4] rfl ⟨nle,tr⟩ rfl .r .r
       ·refine y9 rfl (bf c89)<|sr<|o8 (.bool (B == 9)) rfl rfl rfl<|l7 (.bool (B == 9)) rfl<|dk<|?_
        rcases oi hf with ⟨c92,hf⟩ | ⟨c92,hf⟩
        ·refine y8 rfl c92<|a0r<|o8 (.ptr 2 0 2) rfl tr rfl<|a3o (a0e (v:=(.str [115,97,105,100])) (y':=(.agg [(.I B),(.str D),(.str [115,97,105,100]),(.own 3 0 A.length),.nil,.nil,.nil,(.bool false)])) rfl rfl rfl tr ⟨rfl,nle⟩ ⟨⟨rfl,tr⟩,tr⟩ rfl)<|y5<|a2y<|a0m<|c4u ([(2,(.ptr 1 0 0)),(5,(.ptr 2 0 0))],[.box 3 (.agg [(.lst 1 (U.map a0c)),(.I V),(.I W)]),.box 8 (.agg [(.I 0),(.str []),(.str []),.nil,.nil,.nil,.nil,(.bool false)]),.box 8 (.agg [(.I B),(.str D),(.str [115,97,105,100]),(.own 3 0 A.length),.nil,.nil,.nil,(.bool false)]),.row 3 (A.map a0d)]) ⟨[],[0,1,2,3],_,_,rfl,rfl,⟨.r,⟨.r,tr⟩⟩,.r⟩<|?_
         refine sr<|o8 (.agg [(.I B),(.str D),(.str [115,97,105,100]),(.own 3 0 A.length),.nil,.nil,.nil,(.bool false)]) rfl nle rfl<|a3o (a0e (v:=(.agg [(.I B),(.str D),(.str [115,97,105,100]),(.own 3 0 A.length),.nil,.nil,.nil,(.bool false)])) (y':=(.agg [(.I B),(.str D),(.str [115,97,105,100]),(.own 3 0 A.length),.nil,.nil,.nil,(.bool false)])) rfl rfl rfl tr ⟨rfl,nle⟩ ⟨⟨rfl,tr⟩,⟨⟨rfl,tr⟩,⟨⟨rfl,tr⟩,⟨⟨rfl,tr⟩,⟨⟨rfl,tr⟩,⟨⟨rfl,tr⟩,⟨⟨rfl,tr⟩,⟨⟨rfl,tr⟩,tr⟩⟩⟩⟩⟩⟩⟩⟩ rfl)<|dk<|a0b<|?_;obtain rfl:=os hf;exact a3u [.nilC 1 4 3,.nilC 1 5 3,.nilC 1 6 1] [0,3,4,5,6] rfl ⟨nle,tr⟩ rfl .r .r
        ·refine y9 rfl (bf c92)<|sr<|o8 (.bool (B == 10)) rfl rfl rfl<|l7 (.bool (B == 10)) rfl<|dk<|?_
         rcases oi hf with ⟨c93,hf⟩ | ⟨c93,hf⟩
         ·refine y8 rfl c93<|a0r<|?_
          obtain ⟨O,er95,hf⟩:=ob hf
          refine l7 (.ptr 0 0 0) rfl ?_;refine x8 (a0t (j:=4) (as':=[(.str [108,111,99,107]),(.str [111,116,104,101,114])]) rfl (fun _ => by decide) ⟨rfl,⟨rfl,tr⟩⟩ .r rfl rfl rfl) ?_;refine x8 (a0u (v:=(.str O.1)) (h2:=[.box 3 (.agg [(.lst 1 (O.2.Code.map a0c)),(.I O.2.At),(.I O.2.Seed)]),.box 8 (.agg [(.I 0),(.str []),(.str []),.nil,.nil,.nil,.nil,(.bool false)]),.box 8 (.agg [(.I B),(.str D),(.str []),(.own 3 0 A.length),.nil,.nil,.nil,(.bool false)]),.row 3 (A.map a0d),.dead]) [false,true] [0] (fun h => absurd (show false = true from h) (by decide)) (a8e _ _ _ er95) rfl (.cons .r (.cons (.of_eq (congrArg (AV.lst _) (tko [[108,111,99,107],[111,116,104,101,114]]))) .nil)) .r rfl rfl) ?_
          refine o8 (.ptr 2 0 2) rfl tr rfl<|a3o (a0e (v:=(.str O.1)) (y':=(.agg [(.I B),(.str D),(.str O.1),(.own 3 0 A.length),.nil,.nil,.nil,(.bool false)])) rfl rfl rfl tr ⟨rfl,nle⟩ ⟨⟨rfl,tr⟩,tr⟩ rfl)<|y5<|a2y<|a0m<|c4u ([(2,(.ptr 1 0 0)),(5,(.ptr 2 0 0))],[.box 3 (.agg [(.lst 1 (O.2.Code.map a0c)),(.I O.2.At),(.I O.2.Seed)]),.box 8 (.agg [(.I 0),(.str []),(.str []),.nil,.nil,.nil,.nil,(.bool false)]),.box 8 (.agg [(.I B),(.str D),(.str O.1),(.own 3 0 A.length),.nil,.nil,.nil,(.bool false)]),.row 3 (A.map a0d)]) ⟨[],[0,1,2,3],_,_,rfl,rfl,⟨.r,⟨.r,tr⟩⟩,.r⟩<|?_
          refine sr<|o8 (.agg [(.I B),(.str D),(.str O.1),(.own 3 0 A.length),.nil,.nil,.nil,(.bool false)]) rfl nle rfl<|a3o (a0e (v:=(.agg [(.I B),(.str D),(.str O.1),(.own 3 0 A.length),.nil,.nil,.nil,(.bool false)])) (y':=(.agg [(.I B),(.str D),(.str O.1),(.own 3 0 A.length),.nil,.nil,.nil,(.bool false)])) rfl rfl rfl tr ⟨rfl,nle⟩ ⟨⟨rfl,tr⟩,⟨⟨rfl,tr⟩,⟨⟨rfl,tr⟩,⟨⟨rfl,tr⟩,⟨⟨rfl,tr⟩,⟨⟨rfl,tr⟩,⟨⟨rfl,tr⟩,⟨⟨rfl,tr⟩,tr⟩⟩⟩⟩⟩⟩⟩⟩ rfl)<|dk<|a0b<|?_;obtain rfl:=os hf;exact a3u [.nilC 1 4 3,.nilC 1 5 3,.nilC 1 6 1] [0,3,4,5,6] rfl ⟨nle,tr⟩ rfl .r .r
         ·refine y9 rfl (bf c93)<|a0k<|a2y<|a0m<|c4u ([(2,(.ptr 1 0 0)),(5,(.ptr 2 0 0))],[.box 3 (.agg [(.lst 1 (U.map a0c)),(.I V),(.I W)]),.box 8 (.agg [(.I 0),(.str []),(.str []),.nil,.nil,.nil,.nil,(.bool false)]),.box 8 (.agg [(.I B),(.str D),(.str []),(.own 3 0 A.length),.nil,.nil,.nil,(.bool false)]),.row 3 (A.map a0d)]) ⟨[],[0,1,2,3],_,_,rfl,rfl,⟨.r,⟨.r,tr⟩⟩,.r⟩<|sr<|o8 (.agg [(.I B),(.str D),(.str []),(.own 3 0 A.length),.nil,.nil,.nil,(.bool false)]) rfl nle rfl<|a3o (a0e (v:=(.agg [(.I B),(.str D),(.str []),(.own 3 0 A.length),.nil,.nil,.nil,(.bool false)])) (y':=(.agg [(.I B),(.str D),(.str []),(.own 3 0 A.length),.nil,.nil,.nil,(.bool false)])) rfl rfl rfl tr ⟨rfl,nle⟩ ⟨⟨rfl,tr⟩,⟨⟨rfl,tr⟩,⟨⟨rfl,tr⟩,⟨⟨rfl,tr⟩,⟨⟨rfl,tr⟩,⟨⟨rfl,tr⟩,⟨⟨rfl,tr⟩,⟨⟨rfl,tr⟩,tr⟩⟩⟩⟩⟩⟩⟩⟩ rfl)<|?_
          refine dk<|a0b<|?_;obtain rfl:=os hf;exact a3u [.nilC 1 4 3,.nilC 1 5 3,.nilC 1 6 1] [0,3,4,5,6] rfl ⟨nle,tr⟩ rfl .r .r

/- (*spec.l00Src).ops -/
def d3y:a0s :=
 (.seq (.reg (tm 2 (.c .nil) .done))
 (.seq (.reg (tq 6 (.bslice 8 []) (tm 3 (.t 6) .done)))
 (.seq (.seq (.reg (tm 7 (.t 0) (tq 8 (.call 220 [(.t 7),(.c (.int .i64 2))]) .done)))
 (.cond (.t 8) (.seq (.reg (tm 9 (.t 3) (tm 10 (.t 0) (tq 11 (.call 221 [(.t 10),(.c (.int .i64 1))]) (tq 12 (.build [(.int .i64 0),(.str []),(.str []),.nil,.nil,.nil,.nil,(.bool false)] [(0,1,(.c (.int .i64 1))),(1,1,(.c (.str [112,111,114,116]))),(2,1,(.c (.str [112]))),(4,1,(.t 11))]) (tq 13 (.bslice 8 [(.t 12)]) (tq 14 (.append 8 144 (.t 9) (.t 13)) (tm 3 (.t 14) .done))))))))
 (.seq (.reg (tm 15 (.t 0) (tq 16 (.call 221 [(.t 15),(.c (.int .i64 2))]) (tq 17 (.slice 3 (.t 16) none (some (.c (.int .i64 1)))) (tq 18 (.build [(.int .i64 0),(.str []),(.str []),.nil,.nil,.nil,.nil,(.bool false)] [(0,1,(.c (.int .i64 1))),(1,1,(.c (.str [115,119,105,116,99,104]))),(4,1,(.t 17))]) (tq 4 (.box 8 (.c (.agg [(.int .i64 0),(.str []),(.str []),.nil,.nil,.nil,.nil,(.bool false)]))) (.q ⟨none,none,.store 8 (.t 4) (.t 18)⟩
 .done)))))))
 (.seq (.reg (tq 19 (.faddr 4 (.t 4)) (tq 20 (.load 1 false (.t 19)) (tq 21 (.bslice 3 []) (tq 22 (.bslice 1 [(.c (.str [112]))]) (tq 23 (.build [(.str []),.nil,.nil] [(0,1,(.c (.str [112,111,114,116,115]))),(1,1,(.t 21)),(2,1,(.t 22))]) (tq 24 (.bslice 3 [(.t 23)]) (tq 25 (.append 3 64 (.t 20) (.t 24)) (tq 26 (.faddr 4 (.t 4)) (.q ⟨none,none,.store 1 (.t 26) (.t 25)⟩
 .done))))))))))
 (.reg (tm 27 (.t 3) (tq 28 (.load 8 true (.t 4)) (tq 29 (.bslice 8 [(.t 28)]) (tq 30 (.append 8 144 (.t 27) (.t 29)) (tm 3 (.t 30) .done)))))))))
 .skip))
 (.cut (.seq (.seq (.reg (tm 31 (.t 0) (tq 32 (.call 123 [(.t 31),(.c (.int .i64 4))]) (tm 5 (.t 32) .done))))
 (.block 0 (.loop (.seq (.seq (.reg (tm 33 (.t 5) (tq 34 (.bin .gtr (.t 33) (.c (.int .i64 0))) .done)))
 (.cond (.t 34) .skip
 (.exit 0)))
 (.seq (.block 1 (.reg (tm 37 (.t 3) (tm 38 (.t 0) (tq 39 (.call 222 [(.t 38)]) (tq 40 (.bslice 8 [(.t 39)]) (tq 41 (.append 8 144 (.t 37) (.t 40)) (tm 3 (.t 41) .done))))))))
 (.reg (tm 35 (.t 5) (tq 36 (.bin .sub (.t 35) (.c (.int .i64 1))) (tm 5 (.t 36) .done)))))))))
 (.cut (.seq (.reg (tm 42 (.t 3) (tm 2 (.t 42) .done)))
 .ret)))))))
theorem d8l:a1e Tryz.prog Tryz.f103 = some (d3y.erase,[.mov (.t 2)],43):=by kernel_rfl
def a3s :Nat → Int → (List Int) → Int → Int → (List GOp) → Option ((List Int) × Int × Int × (List GOp))
  | 0,_,_,_,_,_ => none
  | k + 1,G,N,O,P,E =>
    if (decide (G > 0)) then
    (b0m (⟨N,O,P⟩:a0h)).bind fun A =>
    if (E ++ [A.1]).length ≤ 2 ^ 30 then
    a3s k (w64 (G - 1)) A.2.Code A.2.At A.2.Seed (E ++ [A.1])
    else none
    else
    some (N,O,P,E)

def a8c (J:a0h):Option ((List GOp) × a0h) :=
    (((a1r 2 J).bind fun H =>
    if H.1 then
    (a3w 1 H.2).bind fun D =>
    if ([] ++ [(⟨1,[112,111,114,116],[112],[],D.1,[],[],false⟩:GOp)]).length ≤ 2 ^ 30 then
    (a3w 2 D.2).bind fun B =>
    if (0:Int) ≤ 1 ∧ 1 ≤ (B.1.length:Int) then
    if ((B.1.take 1) ++ [(⟨[112,111,114,116,115],[],[[112]]⟩:a3l)]).length ≤ 2 ^ 30 then
    if (([] ++ [(⟨1,[112,111,114,116],[112],[],D.1,[],[],false⟩:GOp)]) ++ [(⟨1,[115,119,105,116,99,104],[],[],(B.1.take 1) ++ [(⟨[112,111,114,116,115],[],[[112]]⟩:a3l)],[],[],false⟩:GOp)]).length ≤ 2 ^ 30 then
    some (B.2.Code,B.2.At,B.2.Seed,([] ++ [(⟨1,[112,111,114,116],[112],[],D.1,[],[],false⟩:GOp)]) ++ [(⟨1,[115,119,105,116,99,104],[],[],(B.1.take 1) ++ [(⟨[112,111,114,116,115],[],[[112]]⟩:a3l)],[],[],false⟩:GOp)])
    else none
    else none
    else none
    else none
    else
    some (H.2.Code,H.2.At,H.2.Seed,[]):Option ((List Int) × Int × Int × (List GOp)))).bind fun p17 =>
    (match p17 with
    | (R,S,T,K) =>
    (a0z 4 (⟨R,S,T⟩:a0h)).bind fun F =>
    (a3s FUEL F.1 F.2.Code F.2.At F.2.Seed K).bind fun p57 =>
    (match p57 with
    | (U,V,W,M) =>
    some (M,(⟨U,V,W⟩:a0h))))
theorem b7p (J:a0h) (r:((List GOp) × a0h)) (hf:a8c J = some r):a1u Tryz.prog false 103 [(.ptr 0 0 0)] [.box 3 (.agg [(.lst 1 (J.Code.map a0c)),(.I J.At),(.I J.Seed)])] (.own 1 0 r.1.length) [.box 3 (.agg [(.lst 1 (r.2.Code.map a0c)),(.I r.2.At),(.I r.2.Seed)]),.row 8 (r.1.map a2u)]:=by
 refine a1u.of_awp mixed Tryz.func103 d8l nle ?_;rw [a0n];unfold a8c at hf;unfold d3y;refine (show awp Tryz.prog false 1 _ (ofL [(0,(.ptr 0 0 0))]) [.box 3 (.agg [(.lst 1 (J.Code.map a0c)),(.I J.At),(.I J.Seed)])] _ from ?_);refine sr<|l7 .nil rfl<|dk<|sr<|?_;refine x8 (a0t (j:=1) (as':=[]) rfl (fun _ => by decide) tr .r rfl rfl rfl) ?_;refine l7 (.own 1 0 0) rfl<|dk<|o7<|?_
 obtain ⟨p17,hb1,hf⟩:=ob hf
 refine a1k ([(0,(.ptr 0 0 0)),(3,(.own 1 0 p17.2.2.2.length))],[.box 3 (.agg [(.lst 1 (p17.1.map a0c)),(.I p17.2.1),(.I p17.2.2.1)]),.row 8 (p17.2.2.2.map a2u)]) ?_ ?_
 ·refine sr<|?_
  obtain ⟨H,er19,hb1⟩:=ob hb1
  refine l7 (.ptr 0 0 0) rfl ?_;refine x8 (a0u (v:=(.bool H.1)) (h2:=[.box 3 (.agg [(.lst 1 (H.2.Code.map a0c)),(.I H.2.At),(.I H.2.Seed)]),.row 8 ([].map a2u)]) [] [0] (fun _ => rfl) (a1w _ _ _ er19) rfl .r .r rfl rfl) ?_;refine dk<|?_
  rcases oi hb1 with ⟨c20,hb1⟩ | ⟨c20,hb1⟩
  ·refine y8 rfl c20<|sr<|?_
   obtain ⟨D,er22,hb1⟩:=ob hb1
   obtain ⟨g23,hb1⟩:=og hb1
   refine l7 (.own 1 0 0) rfl<|l7 (.ptr 0 0 0) rfl<|?_;refine x8 (a0u (v:=(.own 2 0 D.1.length)) (h2:=[.box 3 (.agg [(.lst 1 (D.2.Code.map a0c)),(.I D.2.At),(.I D.2.Seed)]),.row 8 ([].map a2u),.row 3 (D.1.map a0f)]) [] [0] (fun _ => rfl) (a8f _ _ _ er22) rfl .r .r rfl rfl) ?_;refine o8 (.agg [(.I 1),(.str [112,111,114,116]),(.str [112]),.nil,(.own 2 0 D.1.length),.nil,.nil,(.bool false)]) rfl ⟨⟨rfl,nle,tr⟩,⟨⟨rfl,nle,tr⟩,⟨⟨rfl,nle,tr⟩,⟨⟨rfl,nle,tr⟩,tr⟩⟩⟩⟩ rfl ?_;refine x8 (a0t (j:=3) (as':=[(a2u (⟨1,[112,111,114,116],[112],[],D.1,[],[],false⟩:GOp))]) rfl (fun _ => by decide) ⟨rfl,tr⟩ (.cons (.agg (.cons .r (.cons .r (.cons .r (.cons (.nil _) (.cons (.of_eq (congrArg (AV.lst _) (tko (enc:=a0f) D.1))) (.cons (.nil _) (.cons (.nil _) (.cons .r .nil))))))))) .nil) rfl rfl rfl) ?_
   refine x8 (a5m (j:=4) (L:=(([] ++ [(⟨1,[112,111,114,116],[112],[],D.1,[],[],false⟩:GOp)]).map a2u)) (len:=([] ++ [(⟨1,[112,111,114,116],[112],[],D.1,[],[],false⟩:GOp)]).length) rfl rfl ((by simp [← List.map_take])) (by simp <;> omega) g23 rfl rfl) ?_
   refine l7 (.own 4 0 (([] ++ [(⟨1,[112,111,114,116],[112],[],D.1,[],[],false⟩:GOp)]).length)) rfl<|dk<|sr<|?_
   obtain ⟨B,er25,hb1⟩:=ob hb1
   obtain ⟨g26,hb1⟩:=og hb1
   refine l7 (.ptr 0 0 0) rfl ?_;refine x8 (a0u (v:=(.own 5 0 B.1.length)) (h2:=[.box 3 (.agg [(.lst 1 (B.2.Code.map a0c)),(.I B.2.At),(.I B.2.Seed)]),.dead,.dead,.row 8 ([(⟨1,[112,111,114,116],[112],[],D.1,[],[],false⟩:GOp)].map a2u),.row 8 (([] ++ [(⟨1,[112,111,114,116],[112],[],D.1,[],[],false⟩:GOp)]).map a2u),.row 3 (B.1.map a0f)]) [] [0] (fun _ => rfl) (a8f _ _ _ er25) rfl .r .r rfl rfl) ?_;refine x8 (e1h rfl rfl rfl g26.1 g26.2)<|o8 (.agg [(.I 1),(.str [115,119,105,116,99,104]),(.str []),.nil,(.own 5 0 1),.nil,.nil,(.bool false)]) rfl ⟨⟨rfl,nle,tr⟩,⟨⟨rfl,nle,tr⟩,⟨⟨rfl,nle,tr⟩,tr⟩⟩⟩ rfl<|?_
   refine x8 (a1j (j:=6) (c:=(.agg [(.I 0),(.str []),(.str []),.nil,.nil,.nil,.nil,(.bool false)])) rfl tr rfl rfl)<|a3o (a0e (v:=(.agg [(.I 1),(.str [115,119,105,116,99,104]),(.str []),.nil,(.own 5 0 1),.nil,.nil,(.bool false)])) (y':=(.agg [(.I 1),(.str [115,119,105,116,99,104]),(.str []),.nil,(.own 5 0 1),.nil,.nil,(.bool false)])) rfl rfl rfl tr ⟨rfl,nle⟩ ⟨⟨rfl,tr⟩,⟨⟨rfl,tr⟩,⟨⟨rfl,tr⟩,⟨⟨rfl,tr⟩,⟨⟨rfl,tr⟩,⟨⟨rfl,tr⟩,⟨⟨rfl,tr⟩,⟨⟨rfl,tr⟩,tr⟩⟩⟩⟩⟩⟩⟩⟩ rfl)<|dk<|sr<|?_
   obtain ⟨g27,hb1⟩:=og hb1
   refine o8 (.ptr 6 0 4) rfl tr rfl<|o8 (.own 5 0 1) rfl nle rfl<|?_;refine x8 (a0t (j:=7) (as':=[]) rfl (fun _ => by decide) tr .r rfl rfl rfl) ?_;refine x8 (a0t (j:=8) (as':=[(.str [112])]) rfl (fun _ => by decide) ⟨rfl,tr⟩ .r rfl rfl rfl) ?_;refine o8 (.agg [(.str [112,111,114,116,115]),(.own 7 0 0),(.own 8 0 1)]) rfl ⟨⟨rfl,nle,tr⟩,⟨⟨rfl,nle,tr⟩,⟨⟨rfl,nle,tr⟩,tr⟩⟩⟩ rfl ?_;refine x8 (a0t (j:=9) (as':=[(a0f (⟨[112,111,114,116,115],[],[[112]]⟩:a3l))]) rfl (fun _ => by decide) ⟨rfl,tr⟩ .r rfl rfl rfl) ?_
   refine x8 (a5m (j:=10) (L:=(((B.1.take 1) ++ [(⟨[112,111,114,116,115],[],[[112]]⟩:a3l)]).map a0f)) (len:=((B.1.take 1) ++ [(⟨[112,111,114,116,115],[],[[112]]⟩:a3l)]).length) rfl rfl ((by simp)) (by simp <;> omega) g27 rfl rfl) ?_
   refine o8 (.ptr 6 0 4) rfl tr rfl<|a3o (a0e (v:=(.own 10 0 (((B.1.take 1) ++ [(⟨[112,111,114,116,115],[],[[112]]⟩:a3l)]).length))) (y':=(.agg [(.I 1),(.str [115,119,105,116,99,104]),(.str []),.nil,(.own 10 0 (((B.1.take 1) ++ [(⟨[112,111,114,116,115],[],[[112]]⟩:a3l)]).length)),.nil,.nil,(.bool false)])) rfl rfl rfl tr ⟨rfl,nle⟩ ⟨⟨rfl,tr⟩,tr⟩ rfl)<|dk<|a0r<|?_
   obtain ⟨g28,hb1⟩:=og hb1
   refine l7 (.own 4 0 (([] ++ [(⟨1,[112,111,114,116],[112],[],D.1,[],[],false⟩:GOp)]).length)) rfl<|o8 (.agg [(.I 1),(.str [115,119,105,116,99,104]),(.str []),.nil,(.own 10 0 (((B.1.take 1) ++ [(⟨[112,111,114,116,115],[],[[112]]⟩:a3l)]).length)),.nil,.nil,(.bool false)]) rfl nle rfl<|?_;refine x8 (a0t (j:=11) (as':=[(a2u (⟨1,[115,119,105,116,99,104],[],[],(B.1.take 1) ++ [(⟨[112,111,114,116,115],[],[[112]]⟩:a3l)],[],[],false⟩:GOp))]) rfl (fun _ => by decide) ⟨rfl,tr⟩ (.cons (.agg (.cons .r (.cons .r (.cons .r (.cons (.nil _) (.cons (.of_eq (congrArg (AV.lst _) (tko (enc:=a0f) ((B.1.take 1) ++ [(⟨[112,111,114,116,115],[],[[112]]⟩:a3l)])))) (.cons (.nil _) (.cons (.nil _) (.cons .r .nil))))))))) .nil) rfl rfl rfl) ?_
   refine x8 (a5m (j:=12) (L:=((([] ++ [(⟨1,[112,111,114,116],[112],[],D.1,[],[],false⟩:GOp)]) ++ [(⟨1,[115,119,105,116,99,104],[],[],(B.1.take 1) ++ [(⟨[112,111,114,116,115],[],[[112]]⟩:a3l)],[],[],false⟩:GOp)]).map a2u)) (len:=(([] ++ [(⟨1,[112,111,114,116],[112],[],D.1,[],[],false⟩:GOp)]) ++ [(⟨1,[115,119,105,116,99,104],[],[],(B.1.take 1) ++ [(⟨[112,111,114,116,115],[],[[112]]⟩:a3l)],[],[],false⟩:GOp)]).length) rfl rfl (c6g (enc:=a2u) ([] ++ [(⟨1,[112,111,114,116],[112],[],D.1,[],[],false⟩:GOp)]) [(⟨1,[115,119,105,116,99,104],[],[],(B.1.take 1) ++ [(⟨[112,111,114,116,115],[],[[112]]⟩:a3l)],[],[],false⟩:GOp)] _ (by rfl)) (by simp <;> omega) g28 rfl rfl) ?_
   refine l7 (.own 12 0 ((([] ++ [(⟨1,[112,111,114,116],[112],[],D.1,[],[],false⟩:GOp)]) ++ [(⟨1,[115,119,105,116,99,104],[],[],(B.1.take 1) ++ [(⟨[112,111,114,116,115],[],[[112]]⟩:a3l)],[],[],false⟩:GOp)]).length)) rfl<|y5<|?_;obtain rfl:=os hb1;exact ⟨[],[0,12],_,_,rfl,rfl,⟨.r,⟨.r,tr⟩⟩,.r⟩
  ·refine y9 rfl (bf c20)<|a0k<|?_;obtain rfl:=os hb1;exact ⟨[],[0,1],_,_,rfl,rfl,⟨.r,⟨.of_eq (congrArg (AV.own _ 0) (by simp)),tr⟩⟩,.r⟩
 ·obtain ⟨R,S,T,K⟩:=p17
  refine o7<|sr<|?_
  obtain ⟨F,er30,hf⟩:=ob hf
  refine l7 (.ptr 0 0 0) rfl ?_;refine x8 (a0u (v:=(.I F.1)) (h2:=[.box 3 (.agg [(.lst 1 (F.2.Code.map a0c)),(.I F.2.At),(.I F.2.Seed)]),.row 8 (K.map a2u)]) [] [0] (fun _ => rfl) (a0p _ _ _ er30) rfl .r .r rfl rfl) ?_;refine l7 (.I F.1) rfl<|dk<|?_
  obtain ⟨p57,hb1,hf⟩:=ob hf
  refine a1k ([(3,(.own 1 0 p57.2.2.2.length))],[.box 3 (.agg [(.lst 1 (p57.1.map a0c)),(.I p57.2.1),(.I p57.2.2.1)]),.row 8 (p57.2.2.2.map a2u)]) ?_ ?_
  ·refine a1v (X:={q:(Nat × Int × (List Int) × Int × Int × (List GOp)) // a3s q.1 q.2.1 q.2.2.1 q.2.2.2.1 q.2.2.2.2.1 q.2.2.2.2.2 = some p57}) (fun q => ([(0,(.ptr 0 0 0)),(3,(.own 1 0 q.1.2.2.2.2.2.length)),(5,(.I q.1.2.1))],[.box 3 (.agg [(.lst 1 (q.1.2.2.1.map a0c)),(.I q.1.2.2.2.1),(.I q.1.2.2.2.2.1)]),.row 8 (q.1.2.2.2.2.2.map a2u)])) (fun q => q.1.1) ⟨(FUEL,F.1,F.2.Code,F.2.At,F.2.Seed,K),hb1⟩ ⟨[],[0,1],_,_,rfl,rfl,⟨.r,⟨.r,⟨.r,tr⟩⟩⟩,.r⟩ ?_
   rintro ⟨⟨k,G,N,O,P,E⟩,hc1⟩
   have hc1:a3s k G N O P E = some p57:=hc1
   refine (show awp Tryz.prog false 1 _ (ofL [(0,(.ptr 0 0 0)),(3,(.own 1 0 E.length)),(5,(.I G))]) [.box 3 (.agg [(.lst 1 (N.map a0c)),(.I O),(.I P)]),.row 8 (E.map a2u)] _ from ?_)
   rcases k with _ | k
   ·rw [a3s.eq_1] at hc1
    cases hc1
   ·rw [a3s.eq_2] at hc1;refine o7<|sr<|l7 (.I G) rfl<|o8 (.bool (decide (G > 0))) rfl rfl rfl<|dk<|?_
    rcases oi hc1 with ⟨c58,hc1⟩ | ⟨c58,hc1⟩
    ·refine y8 rfl c58<|a0k<|a0m<|o7<|a3y<|a0r<|?_
     obtain ⟨A,er60,hc1⟩:=ob hc1
     obtain ⟨g61,hc1⟩:=og hc1
     refine l7 (.own 1 0 E.length) rfl<|l7 (.ptr 0 0 0) rfl<|?_;refine x8 (a0u (v:=(.agg [(.I A.1.Kind),(.str A.1.Table),(.str A.1.Name),(.own 2 0 A.1.Where.length),(.own 3 0 A.1.Row.length),(.own 4 0 A.1.Muts.length),(.own 5 0 A.1.Columns.length),(.bool A.1.Until)])) (h2:=[.box 3 (.agg [(.lst 1 (A.2.Code.map a0c)),(.I A.2.At),(.I A.2.Seed)]),.row 8 (E.map a2u),.row 3 (A.1.Where.map a0d),.row 3 (A.1.Row.map a0f),.row 3 (A.1.Muts.map a0o),.row 1 (A.1.Columns.map AV.str)]) [] [0] (fun _ => rfl) (c1w _ _ er60) rfl .r .r rfl rfl) ?_;refine x8 (a0t (j:=6) (as':=[(a2u A.1)]) rfl (fun _ => by decide) ⟨rfl,tr⟩ (.cons (.agg (.cons .r (.cons .r (.cons .r (.cons (.of_eq (congrArg (AV.lst _) (tko (enc:=a0d) A.1.Where))) (.cons (.of_eq (congrArg (AV.lst _) (tko (enc:=a0f) A.1.Row))) (.cons (.of_eq (congrArg (AV.lst _) (tko (enc:=a0o) A.1.Muts))) (.cons (.of_eq (congrArg (AV.lst _) (tko (enc:=AV.str) A.1.Columns))) (.cons .r .nil))))))))) .nil) rfl rfl rfl) ?_
     refine x8 (a5m (j:=7) (L:=((E ++ [A.1]).map a2u)) (len:=(E ++ [A.1]).length) rfl rfl (c6g (enc:=a2u) E [A.1] _ (by rfl)) (by simp <;> omega) g61 rfl rfl) ?_
     refine l7 (.own 7 0 ((E ++ [A.1]).length)) rfl<|y5<|a2y<|a0m<|a0r<|l7 (.I G) rfl<|o8 (.I (w64 (G - 1))) rfl rfl rfl<|l7 (.I (w64 (G - 1))) rfl<|y5<|?_;exact a1z ⟨(k,w64 (G - 1),A.2.Code,A.2.At,A.2.Seed,E ++ [A.1]),hc1⟩ (Nat.lt_succ_self _) ⟨[],[0,7],_,_,rfl,rfl,⟨.r,⟨.r,⟨.r,tr⟩⟩⟩,.r⟩
    ·refine y9 rfl (bf c58)<|a3i<|a3h<|a2e<|a3g<|?_;obtain rfl:=os hc1;exact ⟨[],[0,1],_,_,rfl,rfl,⟨.r,tr⟩,.r⟩
  ·obtain ⟨U,V,W,M⟩:=p57
   refine sr<|l7 (.own 1 0 M.length) rfl<|l7 (.own 1 0 M.length) rfl<|dk<|a0b<|?_;obtain rfl:=os hf;exact a3u [] [0,1] rfl ⟨tr,tr⟩ rfl .r .r

/- spec.OpsOf -/
def c26:a0s :=
 (.seq (.reg (tm 2 (.c .nil) .done))
 (.seq (.reg (tm 3 (.t 0) (tq 4 (.call 102 [(.t 3)]) (tq 5 (.call 103 [(.t 4)]) (tm 2 (.t 5) .done)))))
 .ret))
theorem e8t:a1e Tryz.prog Tryz.f26 = some (c26.erase,[.mov (.t 2)],6):=by kernel_rfl
def b4w (A:(List Int)):Option (List GOp) :=
    (a7k A).bind fun D =>
    (a8c D).bind fun B =>
    some B.1
theorem c9e (A:(List Int)) (r:(List GOp)) (hf:b4w A = some r):a0a Tryz.prog 26 .weak [(.lst 1 (A.map a0c))] (.lst 8 (r.map a2u)):=by
  refine a0a.of_awp mixed Tryz.func26 e8t nle ?_
  rw [a0n]
  unfold b4w at hf
  unfold c26
  refine (show awp Tryz.prog false 0 _ (ofL [(0,(.lst 1 (A.map a0c)))]) [] _ from ?_)
  refine o7 ?_
  refine a0r ?_
  refine x8 (a2w .nil rfl) ?_
  refine y5 ?_
  refine a0m ?_
  refine o7 ?_
  refine a0r ?_
  obtain ⟨D,er3,hf⟩:=ob hf
  obtain ⟨B,er5,hf⟩:=ob hf
  refine x8 (a2w (.lst 1 (A.map a0c)) rfl) ?_
  refine x8 (a0u (v:=(.ptr 0 0 0)) (h2:=[.box 3 (.agg [(.lst 1 (D.Code.map a0c)),(.I D.At),(.I D.Seed)])]) [] [] (fun _ => rfl) (b8n _ _ er3) rfl .r .r rfl rfl) ?_
  refine x8 (a0u (v:=(.own 1 0 B.1.length)) (h2:=[.box 3 (.agg [(.lst 1 (B.2.Code.map a0c)),(.I B.2.At),(.I B.2.Seed)]),.row 8 (B.1.map a2u)]) [] [0] (fun _ => rfl) (b7p _ _ er5) rfl .r .r rfl rfl) ?_
  refine x8 (a2w (.own 1 0 B.1.length) rfl) ?_
  refine y5 ?_
  refine a0m ?_
  refine a0b ?_
  obtain rfl:=os hf
  exact c4v ⟨tr,tr⟩ rfl (.of_eq (congrArg (AV.lst _) (tko (enc:=a2u) B.1)))

/- impl.within -/
def e2p:a0s :=
 (.seq (.reg (tm 6 (.c (.bool false)) .done))
 (.seq (.reg (tm 7 (.t 0) (tm 8 (.t 1) (tq 9 (.bin .geq (.t 7) (.t 8)) (tm 10 (.t 9) (tg 11 10 true (.mov (.t 0)) (tg 12 10 true (.mov (.t 2)) (tg 13 10 true (.bin .leq (.t 11) (.t 12)) (tq 14 (.pick (.t 10) (.t 13) (.c (.bool false))) (tm 6 (.t 14) .done))))))))))
 .ret))
theorem e2q:a1e Tryz.prog Tryz.f114 = some (e2p.erase,[.mov (.t 6)],15):=by kernel_rfl
def a3t (D:Int) (A:Int) (B:Int):Option Bool :=
    if (decide (D ≥ A)) then
    some (decide (D ≤ B))
    else
    some false
theorem a3x (D:Int) (A:Int) (B:Int) (r:Bool) (hf:a3t D A B = some r):a0a Tryz.prog 114 .flat [(.I D),(.I A),(.I B)] (.bool r):=by
 refine a0a.of_awp mixed Tryz.func114 e2q nle ?_;rw [a0n];unfold a3t at hf;unfold e2p;refine (show awp Tryz.prog false 0 _ (ofL [(0,(.I D)),(1,(.I A)),(2,(.I B))]) [] _ from ?_);refine sr<|l7 (.bool false) rfl<|dk<|sr<|?_
 rcases oi hf with ⟨c4,hf⟩ | ⟨c4,hf⟩
 ·refine l7 (.I D) rfl<|l7 (.I A) rfl<|o8 (.bool (decide (D ≥ A))) rfl rfl rfl<|l7 (.bool (decide (D ≥ A))) rfl<|a0i (s:=10) (b:=true) rfl c4<|s_on rfl<|l7 (.I D) rfl<|s_on rfl<|l7 (.I B) rfl<|s_on rfl<|o8 (.bool (decide (D ≤ B))) rfl rfl rfl<|o8 (.bool (decide (D ≤ B))) rfl tr rfl<|l7 (.bool (decide (D ≤ B))) rfl<|dk<|a0b<|?_;obtain rfl:=os hf;exact y7 ⟨tr,tr⟩ rfl .r
 ·refine l7 (.I D) rfl<|l7 (.I A) rfl<|o8 (.bool (decide (D ≥ A))) rfl rfl rfl<|l7 (.bool (decide (D ≥ A))) rfl<|a0i (s:=10) (b:=false) rfl (bf c4)<|o6 rfl rfl<|o6 rfl rfl<|o6 rfl rfl<|o8 (.bool false) rfl tr rfl<|l7 (.bool false) rfl<|dk<|a0b<|?_;obtain rfl:=os hf;exact y7 ⟨tr,tr⟩ rfl .r

/- impl.isDigit -/
def e2r:a0s :=
 (.seq (.reg (tm 2 (.c (.bool false)) .done))
 (.seq (.reg (tm 3 (.t 0) (tq 4 (.bin .geq (.t 3) (.c (.int .u8 48))) (tm 5 (.t 4) (tg 6 5 true (.mov (.t 0)) (tg 7 5 true (.bin .leq (.t 6) (.c (.int .u8 57))) (tq 8 (.pick (.t 5) (.t 7) (.c (.bool false))) (tm 2 (.t 8) .done))))))))
 .ret))
theorem e2s:a1e Tryz.prog Tryz.f248 = some (e2r.erase,[.mov (.t 2)],9):=by kernel_rfl
def b2k (A:Int):Option Bool :=
    if (decide (A ≥ 48)) then
    some (decide (A ≤ 57))
    else
    some false
theorem c4y (A:Int) (r:Bool) (hf:b2k A = some r):a0a Tryz.prog 248 .flat [(.int .u8 A)] (.bool r):=by
 refine a0a.of_awp mixed Tryz.func248 e2s nle ?_;rw [a0n];unfold b2k at hf;unfold e2r;refine (show awp Tryz.prog false 0 _ (ofL [(0,(.int .u8 A))]) [] _ from ?_);refine sr<|l7 (.bool false) rfl<|dk<|sr<|?_
 rcases oi hf with ⟨c2,hf⟩ | ⟨c2,hf⟩
 ·refine l7 (.int .u8 A) rfl<|o8 (.bool (decide (A ≥ 48))) rfl rfl rfl<|l7 (.bool (decide (A ≥ 48))) rfl<|a0i (s:=5) (b:=true) rfl c2<|s_on rfl<|l7 (.int .u8 A) rfl<|s_on rfl<|o8 (.bool (decide (A ≤ 57))) rfl rfl rfl<|o8 (.bool (decide (A ≤ 57))) rfl tr rfl<|l7 (.bool (decide (A ≤ 57))) rfl<|dk<|a0b<|?_;obtain rfl:=os hf;exact y7 ⟨tr,tr⟩ rfl .r
 ·refine l7 (.int .u8 A) rfl<|o8 (.bool (decide (A ≥ 48))) rfl rfl rfl<|l7 (.bool (decide (A ≥ 48))) rfl<|a0i (s:=5) (b:=false) rfl (bf c2)<|o6 rfl rfl<|o6 rfl rfl<|o8 (.bool false) rfl tr rfl<|l7 (.bool false) rfl<|dk<|a0b<|?_;obtain rfl:=os hf;exact y7 ⟨tr,tr⟩ rfl .r

end Go.R
