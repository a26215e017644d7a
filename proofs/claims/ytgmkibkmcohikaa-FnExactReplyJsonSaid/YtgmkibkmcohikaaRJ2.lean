/- Walks. -/
import Derived.Test.YtgmkibkmcohikaaRJ1
set_option linter.all false
namespace Go.R
open Go Go.Proofs
set_option linter.unusedVariables false
set_option linter.unusedSimpArgs false
set_option maxHeartbeats 8000000
/- spec.l01Own -/
def c107 : ACode :=
 (.seq (.reg (tq 1 (.box 5 (.t 0)) (tq 2 (.box 5 (.c (.agg [(.int .i64 0), (.int .i64 0), (.str []), .nil, .nil]))) .done)))
 (.seq (.reg (tq 5 (.faddr 0 (.t 1)) (tq 6 (.load 1 false (.t 5)) (tq 7 (.faddr 1 (.t 1)) (tq 8 (.load 1 false (.t 7)) (tq 9 (.faddr 2 (.t 1)) (tq 10 (.load 1 false (.t 9)) (tq 12 (.faddr 3 (.t 1)) (tq 13 (.load 1 false (.t 12)) (.l ⟨(some 11), none, .bslice 1 []⟩ [⟨(some 13), none, .load 1 false (.t 12)⟩, ⟨(some 12), none, .faddr 3 (.t 1)⟩, ⟨(some 10), none, .load 1 false (.t 9)⟩, ⟨(some 9), none, .faddr 2 (.t 1)⟩, ⟨(some 8), none, .load 1 false (.t 7)⟩, ⟨(some 7), none, .faddr 1 (.t 1)⟩, ⟨(some 6), none, .load 1 false (.t 5)⟩, ⟨(some 5), none, .faddr 0 (.t 1)⟩]
 (.l ⟨(some 14), none, .append 1 16 (.t 11) (.t 13)⟩ [⟨(some 10), none, .load 1 false (.t 9)⟩, ⟨(some 9), none, .faddr 2 (.t 1)⟩, ⟨(some 8), none, .load 1 false (.t 7)⟩, ⟨(some 7), none, .faddr 1 (.t 1)⟩, ⟨(some 6), none, .load 1 false (.t 5)⟩, ⟨(some 5), none, .faddr 0 (.t 1)⟩]
 (.l ⟨(some 15), none, .bslice 5 []⟩ [⟨(some 13), none, .load 1 false (.t 12)⟩, ⟨(some 12), none, .faddr 3 (.t 1)⟩, ⟨(some 10), none, .load 1 false (.t 9)⟩, ⟨(some 9), none, .faddr 2 (.t 1)⟩, ⟨(some 8), none, .load 1 false (.t 7)⟩, ⟨(some 7), none, .faddr 1 (.t 1)⟩, ⟨(some 6), none, .load 1 false (.t 5)⟩, ⟨(some 5), none, .faddr 0 (.t 1)⟩]
 (tq 16 (.build [(.int .i64 0), (.int .i64 0), (.str []), .nil, .nil] [(0, 1, (.t 6)), (1, 1, (.t 8)), (2, 1, (.t 10)), (3, 1, (.t 14)), (4, 1, (.t 15))]) (.l ⟨(some 3), none, .box 5 (.c (.agg [(.int .i64 0), (.int .i64 0), (.str []), .nil, .nil]))⟩ [⟨(some 16), none, .build [(.int .i64 0), (.int .i64 0), (.str []), .nil, .nil] [(0, 1, (.t 6)), (1, 1, (.t 8)), (2, 1, (.t 10)), (3, 1, (.t 14)), (4, 1, (.t 15))]⟩, ⟨(some 13), none, .load 1 false (.t 12)⟩, ⟨(some 12), none, .faddr 3 (.t 1)⟩, ⟨(some 10), none, .load 1 false (.t 9)⟩, ⟨(some 9), none, .faddr 2 (.t 1)⟩, ⟨(some 8), none, .load 1 false (.t 7)⟩, ⟨(some 7), none, .faddr 1 (.t 1)⟩, ⟨(some 6), none, .load 1 false (.t 5)⟩, ⟨(some 5), none, .faddr 0 (.t 1)⟩]
 (.l ⟨none, none, .store 5 (.t 3) (.t 16)⟩ []
 .done .non) .non)) (.l ⟨(some 3), none, .box 5 (.c (.agg [(.int .i64 0), (.int .i64 0), (.str []), .nil, .nil]))⟩ [⟨(some 13), none, .load 1 false (.t 12)⟩, ⟨(some 12), none, .faddr 3 (.t 1)⟩, ⟨(some 10), none, .load 1 false (.t 9)⟩, ⟨(some 9), none, .faddr 2 (.t 1)⟩, ⟨(some 8), none, .load 1 false (.t 7)⟩, ⟨(some 7), none, .faddr 1 (.t 1)⟩, ⟨(some 6), none, .load 1 false (.t 5)⟩, ⟨(some 5), none, .faddr 0 (.t 1)⟩]
 (.l ⟨(some 15), none, .bslice 5 []⟩ [⟨(some 13), none, .load 1 false (.t 12)⟩, ⟨(some 12), none, .faddr 3 (.t 1)⟩, ⟨(some 10), none, .load 1 false (.t 9)⟩, ⟨(some 9), none, .faddr 2 (.t 1)⟩, ⟨(some 8), none, .load 1 false (.t 7)⟩, ⟨(some 7), none, .faddr 1 (.t 1)⟩, ⟨(some 6), none, .load 1 false (.t 5)⟩, ⟨(some 5), none, .faddr 0 (.t 1)⟩]
 (tq 16 (.build [(.int .i64 0), (.int .i64 0), (.str []), .nil, .nil] [(0, 1, (.t 6)), (1, 1, (.t 8)), (2, 1, (.t 10)), (3, 1, (.t 14)), (4, 1, (.t 15))]) (.l ⟨none, none, .store 5 (.t 3) (.t 16)⟩ []
 .done .non)) .non) .non)) (.l ⟨(some 15), none, .bslice 5 []⟩ [⟨(some 13), none, .load 1 false (.t 12)⟩, ⟨(some 12), none, .faddr 3 (.t 1)⟩, ⟨(some 10), none, .load 1 false (.t 9)⟩, ⟨(some 9), none, .faddr 2 (.t 1)⟩, ⟨(some 8), none, .load 1 false (.t 7)⟩, ⟨(some 7), none, .faddr 1 (.t 1)⟩, ⟨(some 6), none, .load 1 false (.t 5)⟩, ⟨(some 5), none, .faddr 0 (.t 1)⟩]
 (.l ⟨(some 14), none, .append 1 16 (.t 11) (.t 13)⟩ [⟨(some 10), none, .load 1 false (.t 9)⟩, ⟨(some 9), none, .faddr 2 (.t 1)⟩, ⟨(some 8), none, .load 1 false (.t 7)⟩, ⟨(some 7), none, .faddr 1 (.t 1)⟩, ⟨(some 6), none, .load 1 false (.t 5)⟩, ⟨(some 5), none, .faddr 0 (.t 1)⟩]
 (tq 16 (.build [(.int .i64 0), (.int .i64 0), (.str []), .nil, .nil] [(0, 1, (.t 6)), (1, 1, (.t 8)), (2, 1, (.t 10)), (3, 1, (.t 14)), (4, 1, (.t 15))]) (.l ⟨(some 3), none, .box 5 (.c (.agg [(.int .i64 0), (.int .i64 0), (.str []), .nil, .nil]))⟩ [⟨(some 16), none, .build [(.int .i64 0), (.int .i64 0), (.str []), .nil, .nil] [(0, 1, (.t 6)), (1, 1, (.t 8)), (2, 1, (.t 10)), (3, 1, (.t 14)), (4, 1, (.t 15))]⟩, ⟨(some 13), none, .load 1 false (.t 12)⟩, ⟨(some 12), none, .faddr 3 (.t 1)⟩, ⟨(some 10), none, .load 1 false (.t 9)⟩, ⟨(some 9), none, .faddr 2 (.t 1)⟩, ⟨(some 8), none, .load 1 false (.t 7)⟩, ⟨(some 7), none, .faddr 1 (.t 1)⟩, ⟨(some 6), none, .load 1 false (.t 5)⟩, ⟨(some 5), none, .faddr 0 (.t 1)⟩]
 (.l ⟨none, none, .store 5 (.t 3) (.t 16)⟩ []
 .done .non) .non)) (.l ⟨(some 3), none, .box 5 (.c (.agg [(.int .i64 0), (.int .i64 0), (.str []), .nil, .nil]))⟩ [⟨(some 13), none, .load 1 false (.t 12)⟩, ⟨(some 12), none, .faddr 3 (.t 1)⟩, ⟨(some 10), none, .load 1 false (.t 9)⟩, ⟨(some 9), none, .faddr 2 (.t 1)⟩, ⟨(some 8), none, .load 1 false (.t 7)⟩, ⟨(some 7), none, .faddr 1 (.t 1)⟩, ⟨(some 6), none, .load 1 false (.t 5)⟩, ⟨(some 5), none, .faddr 0 (.t 1)⟩]
 (.l ⟨(some 14), none, .append 1 16 (.t 11) (.t 13)⟩ [⟨(some 10), none, .load 1 false (.t 9)⟩, ⟨(some 9), none, .faddr 2 (.t 1)⟩, ⟨(some 8), none, .load 1 false (.t 7)⟩, ⟨(some 7), none, .faddr 1 (.t 1)⟩, ⟨(some 6), none, .load 1 false (.t 5)⟩, ⟨(some 5), none, .faddr 0 (.t 1)⟩]
 (tq 16 (.build [(.int .i64 0), (.int .i64 0), (.str []), .nil, .nil] [(0, 1, (.t 6)), (1, 1, (.t 8)), (2, 1, (.t 10)), (3, 1, (.t 14)), (4, 1, (.t 15))]) (.l ⟨none, none, .store 5 (.t 3) (.t 16)⟩ []
 .done .non)) .non) .non)) (.l ⟨(some 3), none, .box 5 (.c (.agg [(.int .i64 0), (.int .i64 0), (.str []), .nil, .nil]))⟩ [⟨(some 13), none, .load 1 false (.t 12)⟩, ⟨(some 12), none, .faddr 3 (.t 1)⟩, ⟨(some 10), none, .load 1 false (.t 9)⟩, ⟨(some 9), none, .faddr 2 (.t 1)⟩, ⟨(some 8), none, .load 1 false (.t 7)⟩, ⟨(some 7), none, .faddr 1 (.t 1)⟩, ⟨(some 6), none, .load 1 false (.t 5)⟩, ⟨(some 5), none, .faddr 0 (.t 1)⟩]
 (.l ⟨(some 14), none, .append 1 16 (.t 11) (.t 13)⟩ [⟨(some 10), none, .load 1 false (.t 9)⟩, ⟨(some 9), none, .faddr 2 (.t 1)⟩, ⟨(some 8), none, .load 1 false (.t 7)⟩, ⟨(some 7), none, .faddr 1 (.t 1)⟩, ⟨(some 6), none, .load 1 false (.t 5)⟩, ⟨(some 5), none, .faddr 0 (.t 1)⟩]
 (.l ⟨(some 15), none, .bslice 5 []⟩ [⟨(some 13), none, .load 1 false (.t 12)⟩, ⟨(some 12), none, .faddr 3 (.t 1)⟩, ⟨(some 10), none, .load 1 false (.t 9)⟩, ⟨(some 9), none, .faddr 2 (.t 1)⟩, ⟨(some 8), none, .load 1 false (.t 7)⟩, ⟨(some 7), none, .faddr 1 (.t 1)⟩, ⟨(some 6), none, .load 1 false (.t 5)⟩, ⟨(some 5), none, .faddr 0 (.t 1)⟩]
 (tq 16 (.build [(.int .i64 0), (.int .i64 0), (.str []), .nil, .nil] [(0, 1, (.t 6)), (1, 1, (.t 8)), (2, 1, (.t 10)), (3, 1, (.t 14)), (4, 1, (.t 15))]) (.l ⟨none, none, .store 5 (.t 3) (.t 16)⟩ []
 .done .non)) .non) (.l ⟨(some 15), none, .bslice 5 []⟩ [⟨(some 13), none, .load 1 false (.t 12)⟩, ⟨(some 12), none, .faddr 3 (.t 1)⟩, ⟨(some 10), none, .load 1 false (.t 9)⟩, ⟨(some 9), none, .faddr 2 (.t 1)⟩, ⟨(some 8), none, .load 1 false (.t 7)⟩, ⟨(some 7), none, .faddr 1 (.t 1)⟩, ⟨(some 6), none, .load 1 false (.t 5)⟩, ⟨(some 5), none, .faddr 0 (.t 1)⟩]
 (.l ⟨(some 14), none, .append 1 16 (.t 11) (.t 13)⟩ [⟨(some 10), none, .load 1 false (.t 9)⟩, ⟨(some 9), none, .faddr 2 (.t 1)⟩, ⟨(some 8), none, .load 1 false (.t 7)⟩, ⟨(some 7), none, .faddr 1 (.t 1)⟩, ⟨(some 6), none, .load 1 false (.t 5)⟩, ⟨(some 5), none, .faddr 0 (.t 1)⟩]
 (tq 16 (.build [(.int .i64 0), (.int .i64 0), (.str []), .nil, .nil] [(0, 1, (.t 6)), (1, 1, (.t 8)), (2, 1, (.t 10)), (3, 1, (.t 14)), (4, 1, (.t 15))]) (.l ⟨none, none, .store 5 (.t 3) (.t 16)⟩ []
 .done .non)) .non) .non)) .non))) (.l ⟨(some 15), none, .bslice 5 []⟩ [⟨(some 13), none, .load 1 false (.t 12)⟩, ⟨(some 12), none, .faddr 3 (.t 1)⟩, ⟨(some 10), none, .load 1 false (.t 9)⟩, ⟨(some 9), none, .faddr 2 (.t 1)⟩, ⟨(some 8), none, .load 1 false (.t 7)⟩, ⟨(some 7), none, .faddr 1 (.t 1)⟩, ⟨(some 6), none, .load 1 false (.t 5)⟩, ⟨(some 5), none, .faddr 0 (.t 1)⟩]
 (.l ⟨(some 11), none, .bslice 1 []⟩ [⟨(some 13), none, .load 1 false (.t 12)⟩, ⟨(some 12), none, .faddr 3 (.t 1)⟩, ⟨(some 10), none, .load 1 false (.t 9)⟩, ⟨(some 9), none, .faddr 2 (.t 1)⟩, ⟨(some 8), none, .load 1 false (.t 7)⟩, ⟨(some 7), none, .faddr 1 (.t 1)⟩, ⟨(some 6), none, .load 1 false (.t 5)⟩, ⟨(some 5), none, .faddr 0 (.t 1)⟩]
 (.l ⟨(some 14), none, .append 1 16 (.t 11) (.t 13)⟩ [⟨(some 10), none, .load 1 false (.t 9)⟩, ⟨(some 9), none, .faddr 2 (.t 1)⟩, ⟨(some 8), none, .load 1 false (.t 7)⟩, ⟨(some 7), none, .faddr 1 (.t 1)⟩, ⟨(some 6), none, .load 1 false (.t 5)⟩, ⟨(some 5), none, .faddr 0 (.t 1)⟩]
 (tq 16 (.build [(.int .i64 0), (.int .i64 0), (.str []), .nil, .nil] [(0, 1, (.t 6)), (1, 1, (.t 8)), (2, 1, (.t 10)), (3, 1, (.t 14)), (4, 1, (.t 15))]) (.l ⟨(some 3), none, .box 5 (.c (.agg [(.int .i64 0), (.int .i64 0), (.str []), .nil, .nil]))⟩ [⟨(some 16), none, .build [(.int .i64 0), (.int .i64 0), (.str []), .nil, .nil] [(0, 1, (.t 6)), (1, 1, (.t 8)), (2, 1, (.t 10)), (3, 1, (.t 14)), (4, 1, (.t 15))]⟩, ⟨(some 13), none, .load 1 false (.t 12)⟩, ⟨(some 12), none, .faddr 3 (.t 1)⟩, ⟨(some 10), none, .load 1 false (.t 9)⟩, ⟨(some 9), none, .faddr 2 (.t 1)⟩, ⟨(some 8), none, .load 1 false (.t 7)⟩, ⟨(some 7), none, .faddr 1 (.t 1)⟩, ⟨(some 6), none, .load 1 false (.t 5)⟩, ⟨(some 5), none, .faddr 0 (.t 1)⟩]
 (.l ⟨none, none, .store 5 (.t 3) (.t 16)⟩ []
 .done .non) .non)) (.l ⟨(some 3), none, .box 5 (.c (.agg [(.int .i64 0), (.int .i64 0), (.str []), .nil, .nil]))⟩ [⟨(some 13), none, .load 1 false (.t 12)⟩, ⟨(some 12), none, .faddr 3 (.t 1)⟩, ⟨(some 10), none, .load 1 false (.t 9)⟩, ⟨(some 9), none, .faddr 2 (.t 1)⟩, ⟨(some 8), none, .load 1 false (.t 7)⟩, ⟨(some 7), none, .faddr 1 (.t 1)⟩, ⟨(some 6), none, .load 1 false (.t 5)⟩, ⟨(some 5), none, .faddr 0 (.t 1)⟩]
 (.l ⟨(some 14), none, .append 1 16 (.t 11) (.t 13)⟩ [⟨(some 10), none, .load 1 false (.t 9)⟩, ⟨(some 9), none, .faddr 2 (.t 1)⟩, ⟨(some 8), none, .load 1 false (.t 7)⟩, ⟨(some 7), none, .faddr 1 (.t 1)⟩, ⟨(some 6), none, .load 1 false (.t 5)⟩, ⟨(some 5), none, .faddr 0 (.t 1)⟩]
 (tq 16 (.build [(.int .i64 0), (.int .i64 0), (.str []), .nil, .nil] [(0, 1, (.t 6)), (1, 1, (.t 8)), (2, 1, (.t 10)), (3, 1, (.t 14)), (4, 1, (.t 15))]) (.l ⟨none, none, .store 5 (.t 3) (.t 16)⟩ []
 .done .non)) .non) .non)) (.l ⟨(some 3), none, .box 5 (.c (.agg [(.int .i64 0), (.int .i64 0), (.str []), .nil, .nil]))⟩ [⟨(some 13), none, .load 1 false (.t 12)⟩, ⟨(some 12), none, .faddr 3 (.t 1)⟩, ⟨(some 10), none, .load 1 false (.t 9)⟩, ⟨(some 9), none, .faddr 2 (.t 1)⟩, ⟨(some 8), none, .load 1 false (.t 7)⟩, ⟨(some 7), none, .faddr 1 (.t 1)⟩, ⟨(some 6), none, .load 1 false (.t 5)⟩, ⟨(some 5), none, .faddr 0 (.t 1)⟩]
 (.l ⟨(some 11), none, .bslice 1 []⟩ [⟨(some 13), none, .load 1 false (.t 12)⟩, ⟨(some 12), none, .faddr 3 (.t 1)⟩, ⟨(some 10), none, .load 1 false (.t 9)⟩, ⟨(some 9), none, .faddr 2 (.t 1)⟩, ⟨(some 8), none, .load 1 false (.t 7)⟩, ⟨(some 7), none, .faddr 1 (.t 1)⟩, ⟨(some 6), none, .load 1 false (.t 5)⟩, ⟨(some 5), none, .faddr 0 (.t 1)⟩]
 (.l ⟨(some 14), none, .append 1 16 (.t 11) (.t 13)⟩ [⟨(some 10), none, .load 1 false (.t 9)⟩, ⟨(some 9), none, .faddr 2 (.t 1)⟩, ⟨(some 8), none, .load 1 false (.t 7)⟩, ⟨(some 7), none, .faddr 1 (.t 1)⟩, ⟨(some 6), none, .load 1 false (.t 5)⟩, ⟨(some 5), none, .faddr 0 (.t 1)⟩]
 (tq 16 (.build [(.int .i64 0), (.int .i64 0), (.str []), .nil, .nil] [(0, 1, (.t 6)), (1, 1, (.t 8)), (2, 1, (.t 10)), (3, 1, (.t 14)), (4, 1, (.t 15))]) (.l ⟨none, none, .store 5 (.t 3) (.t 16)⟩ []
 .done .non)) .non) .non) .non)) (.l ⟨(some 3), none, .box 5 (.c (.agg [(.int .i64 0), (.int .i64 0), (.str []), .nil, .nil]))⟩ [⟨(some 13), none, .load 1 false (.t 12)⟩, ⟨(some 12), none, .faddr 3 (.t 1)⟩, ⟨(some 10), none, .load 1 false (.t 9)⟩, ⟨(some 9), none, .faddr 2 (.t 1)⟩, ⟨(some 8), none, .load 1 false (.t 7)⟩, ⟨(some 7), none, .faddr 1 (.t 1)⟩, ⟨(some 6), none, .load 1 false (.t 5)⟩, ⟨(some 5), none, .faddr 0 (.t 1)⟩]
 (.l ⟨(some 11), none, .bslice 1 []⟩ [⟨(some 13), none, .load 1 false (.t 12)⟩, ⟨(some 12), none, .faddr 3 (.t 1)⟩, ⟨(some 10), none, .load 1 false (.t 9)⟩, ⟨(some 9), none, .faddr 2 (.t 1)⟩, ⟨(some 8), none, .load 1 false (.t 7)⟩, ⟨(some 7), none, .faddr 1 (.t 1)⟩, ⟨(some 6), none, .load 1 false (.t 5)⟩, ⟨(some 5), none, .faddr 0 (.t 1)⟩]
 (.l ⟨(some 14), none, .append 1 16 (.t 11) (.t 13)⟩ [⟨(some 10), none, .load 1 false (.t 9)⟩, ⟨(some 9), none, .faddr 2 (.t 1)⟩, ⟨(some 8), none, .load 1 false (.t 7)⟩, ⟨(some 7), none, .faddr 1 (.t 1)⟩, ⟨(some 6), none, .load 1 false (.t 5)⟩, ⟨(some 5), none, .faddr 0 (.t 1)⟩]
 (.l ⟨(some 15), none, .bslice 5 []⟩ [⟨(some 13), none, .load 1 false (.t 12)⟩, ⟨(some 12), none, .faddr 3 (.t 1)⟩, ⟨(some 10), none, .load 1 false (.t 9)⟩, ⟨(some 9), none, .faddr 2 (.t 1)⟩, ⟨(some 8), none, .load 1 false (.t 7)⟩, ⟨(some 7), none, .faddr 1 (.t 1)⟩, ⟨(some 6), none, .load 1 false (.t 5)⟩, ⟨(some 5), none, .faddr 0 (.t 1)⟩]
 (tq 16 (.build [(.int .i64 0), (.int .i64 0), (.str []), .nil, .nil] [(0, 1, (.t 6)), (1, 1, (.t 8)), (2, 1, (.t 10)), (3, 1, (.t 14)), (4, 1, (.t 15))]) (.l ⟨none, none, .store 5 (.t 3) (.t 16)⟩ []
 .done .non)) .non) (.l ⟨(some 15), none, .bslice 5 []⟩ [⟨(some 13), none, .load 1 false (.t 12)⟩, ⟨(some 12), none, .faddr 3 (.t 1)⟩, ⟨(some 10), none, .load 1 false (.t 9)⟩, ⟨(some 9), none, .faddr 2 (.t 1)⟩, ⟨(some 8), none, .load 1 false (.t 7)⟩, ⟨(some 7), none, .faddr 1 (.t 1)⟩, ⟨(some 6), none, .load 1 false (.t 5)⟩, ⟨(some 5), none, .faddr 0 (.t 1)⟩]
 (.l ⟨(some 14), none, .append 1 16 (.t 11) (.t 13)⟩ [⟨(some 10), none, .load 1 false (.t 9)⟩, ⟨(some 9), none, .faddr 2 (.t 1)⟩, ⟨(some 8), none, .load 1 false (.t 7)⟩, ⟨(some 7), none, .faddr 1 (.t 1)⟩, ⟨(some 6), none, .load 1 false (.t 5)⟩, ⟨(some 5), none, .faddr 0 (.t 1)⟩]
 (tq 16 (.build [(.int .i64 0), (.int .i64 0), (.str []), .nil, .nil] [(0, 1, (.t 6)), (1, 1, (.t 8)), (2, 1, (.t 10)), (3, 1, (.t 14)), (4, 1, (.t 15))]) (.l ⟨none, none, .store 5 (.t 3) (.t 16)⟩ []
 .done .non)) .non) .non)) (.l ⟨(some 15), none, .bslice 5 []⟩ [⟨(some 13), none, .load 1 false (.t 12)⟩, ⟨(some 12), none, .faddr 3 (.t 1)⟩, ⟨(some 10), none, .load 1 false (.t 9)⟩, ⟨(some 9), none, .faddr 2 (.t 1)⟩, ⟨(some 8), none, .load 1 false (.t 7)⟩, ⟨(some 7), none, .faddr 1 (.t 1)⟩, ⟨(some 6), none, .load 1 false (.t 5)⟩, ⟨(some 5), none, .faddr 0 (.t 1)⟩]
 (.l ⟨(some 11), none, .bslice 1 []⟩ [⟨(some 13), none, .load 1 false (.t 12)⟩, ⟨(some 12), none, .faddr 3 (.t 1)⟩, ⟨(some 10), none, .load 1 false (.t 9)⟩, ⟨(some 9), none, .faddr 2 (.t 1)⟩, ⟨(some 8), none, .load 1 false (.t 7)⟩, ⟨(some 7), none, .faddr 1 (.t 1)⟩, ⟨(some 6), none, .load 1 false (.t 5)⟩, ⟨(some 5), none, .faddr 0 (.t 1)⟩]
 (.l ⟨(some 14), none, .append 1 16 (.t 11) (.t 13)⟩ [⟨(some 10), none, .load 1 false (.t 9)⟩, ⟨(some 9), none, .faddr 2 (.t 1)⟩, ⟨(some 8), none, .load 1 false (.t 7)⟩, ⟨(some 7), none, .faddr 1 (.t 1)⟩, ⟨(some 6), none, .load 1 false (.t 5)⟩, ⟨(some 5), none, .faddr 0 (.t 1)⟩]
 (tq 16 (.build [(.int .i64 0), (.int .i64 0), (.str []), .nil, .nil] [(0, 1, (.t 6)), (1, 1, (.t 8)), (2, 1, (.t 10)), (3, 1, (.t 14)), (4, 1, (.t 15))]) (.l ⟨none, none, .store 5 (.t 3) (.t 16)⟩ []
 .done .non)) .non) .non) .non)) .non))))))))))))
 (.cut (.seq (.seq (.reg (tm 4 (.c (.int .i64 0)) .done))
 (.block 0 (.loop (.seq (.seq (.reg (tm 17 (.t 4) (tq 18 (.faddr 4 (.t 1)) (tq 19 (.load 1 false (.t 18)) (tq 20 (.len (.t 19)) (tq 21 (.bin .lss (.t 17) (.t 20)) .done))))))
 (.cond (.t 21) .skip
 (.exit 0)))
 (.seq (.block 1 (.reg (tq 24 (.faddr 4 (.t 3)) (tq 25 (.load 1 false (.t 24)) (tq 26 (.faddr 4 (.t 1)) (tq 27 (.load 1 false (.t 26)) (tm 28 (.t 4) (tq 29 (.iaddr 5 (.t 27) (.t 28)) (tq 30 (.load 5 true (.t 29)) (.l ⟨(some 31), none, .call 107 [(.t 30)]⟩ [⟨(some 25), none, .load 1 false (.t 24)⟩, ⟨(some 24), none, .faddr 4 (.t 3)⟩]
 (.l ⟨(some 32), none, .bslice 5 [(.t 31)]⟩ [⟨(some 25), none, .load 1 false (.t 24)⟩, ⟨(some 24), none, .faddr 4 (.t 3)⟩]
 (.l ⟨(some 33), none, .append 5 80 (.t 25) (.t 32)⟩ []
 (tq 34 (.faddr 4 (.t 3)) (.l ⟨none, none, .store 1 (.t 34) (.t 33)⟩ []
 .done .non)) .non) .non) .non))))))))))
 (.reg (tm 22 (.t 4) (tq 23 (.bin .add (.t 22) (.c (.int .i64 1))) (tm 4 (.t 23) .done)))))))))
 (.cut (.seq (.reg (tq 35 (.load 5 true (.t 3)) (.q ⟨none, none, .store 5 (.t 2) (.t 35)⟩
 .done)))
 .ret))))))
theorem fc107 : fcomp Try.prog Try.f107 = some (c107.erase, [.load 5 true (.t 2)], 36) := by kernel_rfl
def spec_l01Own_B_L1 (rec : (GJson → Option GJson)) : List GJson → (List GJson) → Option (List GJson)
  | [], x_22 =>
    some x_22
  | x_39 :: xs, x_22 =>
    (rec x_39).bind fun r_42 =>
    if (x_22 ++ [r_42]).length ≤ 2 ^ 30 then
    spec_l01Own_B_L1 rec xs  (x_22 ++ [r_42])
    else none

def spec_l01Own_B (rec : (GJson → Option GJson)) (j_1 : GJson) : Option GJson :=
    ((if ([] ++ j_1.Keys).length ≤ 2 ^ 30 then
    some ()
    else none : Option Unit)).bind fun _ =>
    (spec_l01Own_B_L1 rec j_1.Items []).bind fun x_31 =>
    some (⟨j_1.Kind, j_1.N, j_1.T, [] ++ j_1.Keys, x_31⟩ : GJson)
theorem w_spec_l01Own_B (rec : (GJson → Option GJson)) (hrec : ∀ a0 r, rec a0 = some r → CallOK Try.prog 107 .fresh [(encGJson a0)] (encGJson r)) (j_1 : GJson) (r : GJson) (hf : spec_l01Own_B rec j_1 = some r) : CallOK Try.prog 107 .fresh [(encGJson j_1)] (encGJson r) := by
 refine CallOK.of_awp mixed Try.func107 fc107 nle ?_; rw [argT_eq]; rw [encGJson_eq j_1]; unfold spec_l01Own_B at hf; unfold c107; refine (show awp Try.prog true 0 _ (ofL [(0, (.agg [(.int .i64 j_1.Kind), (.int .i64 j_1.N), (.str j_1.T), (.lst 1 (j_1.Keys.map AV.str)), (.lst 5 (j_1.Items.map encGJson))]))]) [] _ from ?_); refine awp_seq <| w_reg <| s_do (o_box (j := 0) (c := (.agg [(.int .i64 j_1.Kind), (.int .i64 j_1.N), (.str j_1.T), (.lst 1 (j_1.Keys.map AV.str)), (.lst 5 (j_1.Items.map encGJson))])) rfl trivial rfl rfl) <| s_do (o_box (j := 1) (c := (.agg [(.int .i64 0), (.int .i64 0), (.str []), .nil, .nil])) rfl trivial rfl rfl) <| w_done <| k_seq <| awp_seq <| ?_
 obtain ⟨p3, hb1, hf⟩ := ob hf
 refine awp_cut ([(1, (.ptr 0 0 0)), (2, (.ptr 1 0 0)), (3, (.ptr 2 0 0))], [.box 5 (.agg [(.int .i64 j_1.Kind), (.int .i64 j_1.N), (.str j_1.T), (.lst 1 (j_1.Keys.map AV.str)), (.lst 5 (j_1.Items.map encGJson))]), .box 5 (.agg [(.int .i64 0), (.int .i64 0), (.str []), .nil, .nil]), .box 5 (.agg [(.int .i64 j_1.Kind), (.int .i64 j_1.N), (.str j_1.T), (.own 3 0 (([] ++ j_1.Keys).length)), (.own 4 0 0)]), .row 1 (([] ++ j_1.Keys).map AV.str), .row 5 ([].map encGJson)]) ?_ ?_
 ·refine w_reg ?_
  obtain ⟨g4, hb1⟩ := og hb1
  refine s_q (.ptr 0 0 0) rfl trivial rfl <| s_q (.int .i64 j_1.Kind) rfl nle rfl <| s_q (.ptr 0 0 1) rfl trivial rfl <| s_q (.int .i64 j_1.N) rfl nle rfl <| s_q (.ptr 0 0 2) rfl trivial rfl <| s_q (.str j_1.T) rfl nle rfl <| s_q (.ptr 0 0 3) rfl trivial rfl <| s_q (.lst 1 (j_1.Keys.map AV.str)) rfl nle rfl <| ?_; refine s_dol (o_bslice (j := 2) (as' := []) rfl (fun _ => by decide) trivial (.refl _) rfl rfl rfl) (.inr ⟨⟨nle, rfl⟩, ⟨⟨trivial, rfl⟩, ⟨⟨nle, rfl⟩, ⟨⟨trivial, rfl⟩, ⟨⟨nle, rfl⟩, ⟨⟨trivial, rfl⟩, ⟨⟨nle, rfl⟩, ⟨⟨trivial, rfl⟩, trivial⟩⟩⟩⟩⟩⟩⟩⟩) ?_ ?_
  ·refine s_dol (o_bslice (j := 2) (as' := []) rfl (fun _ => by decide) trivial (.refl _) rfl rfl rfl) (.inr ⟨⟨nle, rfl⟩, ⟨⟨trivial, rfl⟩, ⟨⟨nle, rfl⟩, ⟨⟨trivial, rfl⟩, ⟨⟨nle, rfl⟩, ⟨⟨trivial, rfl⟩, ⟨⟨nle, rfl⟩, ⟨⟨trivial, rfl⟩, trivial⟩⟩⟩⟩⟩⟩⟩⟩) ?_ ?_
   ·refine s_dol (o_box (j := 2) (c := (.agg [(.int .i64 0), (.int .i64 0), (.str []), .nil, .nil])) rfl trivial rfl rfl) (.inr ⟨⟨nle, rfl⟩, ⟨⟨trivial, rfl⟩, ⟨⟨nle, rfl⟩, ⟨⟨trivial, rfl⟩, ⟨⟨nle, rfl⟩, ⟨⟨trivial, rfl⟩, ⟨⟨nle, rfl⟩, ⟨⟨trivial, rfl⟩, trivial⟩⟩⟩⟩⟩⟩⟩⟩) trivial ?_; refine s_dol (o_bslice (j := 3) (as' := []) rfl (fun _ => by decide) trivial (.refl _) rfl rfl rfl) (.inr ⟨⟨nle, rfl⟩, ⟨⟨trivial, rfl⟩, ⟨⟨nle, rfl⟩, ⟨⟨trivial, rfl⟩, ⟨⟨nle, rfl⟩, ⟨⟨trivial, rfl⟩, ⟨⟨nle, rfl⟩, ⟨⟨trivial, rfl⟩, trivial⟩⟩⟩⟩⟩⟩⟩⟩) ?_ ?_
    ·refine s_dol (o_bslice (j := 3) (as' := []) rfl (fun _ => by decide) trivial (.refl _) rfl rfl rfl) (.inr ⟨⟨nle, rfl⟩, ⟨⟨trivial, rfl⟩, ⟨⟨nle, rfl⟩, ⟨⟨trivial, rfl⟩, ⟨⟨nle, rfl⟩, ⟨⟨trivial, rfl⟩, ⟨⟨nle, rfl⟩, ⟨⟨trivial, rfl⟩, trivial⟩⟩⟩⟩⟩⟩⟩⟩) trivial ?_; refine s_dol (o_bslice (j := 4) (as' := []) rfl (fun _ => by decide) trivial (.refl _) rfl rfl rfl) (.inr ⟨⟨nle, rfl⟩, ⟨⟨trivial, rfl⟩, ⟨⟨nle, rfl⟩, ⟨⟨trivial, rfl⟩, ⟨⟨nle, rfl⟩, ⟨⟨trivial, rfl⟩, ⟨⟨nle, rfl⟩, ⟨⟨trivial, rfl⟩, trivial⟩⟩⟩⟩⟩⟩⟩⟩) trivial ?_
     refine s_dol (o_appendd (j := 5) (L := (([] ++ j_1.Keys).map AV.str)) (len := ([] ++ j_1.Keys).length) rfl false rfl rfl (fun _ => flm (fun _ => rfl) _) (fun _ _ _ => flm (fun _ => rfl) _) (by decide) ((by simp)) (by simp <;> omega) g4 rfl rfl) (.inr ⟨⟨nle, rfl⟩, ⟨⟨trivial, rfl⟩, ⟨⟨nle, rfl⟩, ⟨⟨trivial, rfl⟩, ⟨⟨nle, rfl⟩, ⟨⟨trivial, rfl⟩, trivial⟩⟩⟩⟩⟩⟩) trivial ?_
     refine s_q (.agg [(.int .i64 j_1.Kind), (.int .i64 j_1.N), (.str j_1.T), (.own 5 0 (([] ++ j_1.Keys).length)), (.own 3 0 0)]) rfl ⟨⟨rfl, nle, trivial⟩, ⟨⟨rfl, nle, trivial⟩, ⟨⟨rfl, nle, trivial⟩, ⟨⟨rfl, nle, trivial⟩, ⟨⟨rfl, nle, trivial⟩, trivial⟩⟩⟩⟩⟩ rfl <| s_dol0 (o_storebox (v := (.agg [(.int .i64 j_1.Kind), (.int .i64 j_1.N), (.str j_1.T), (.own 5 0 (([] ++ j_1.Keys).length)), (.own 3 0 0)])) (y' := (.agg [(.int .i64 j_1.Kind), (.int .i64 j_1.N), (.str j_1.T), (.own 5 0 (([] ++ j_1.Keys).length)), (.own 3 0 0)])) rfl rfl rfl trivial ⟨rfl, nle⟩ ⟨⟨rfl, trivial⟩, ⟨⟨rfl, trivial⟩, ⟨⟨rfl, trivial⟩, ⟨⟨rfl, trivial⟩, ⟨⟨rfl, trivial⟩, trivial⟩⟩⟩⟩⟩ rfl) trivial trivial <| w_done <| ?_; obtain rfl := os hb1; exact ⟨[], [0, 1, 2, 5, 3], _, _, rfl, rfl, ⟨.refl _, ⟨.refl _, ⟨.refl _, trivial⟩⟩⟩, (.cons (.refl _) (.cons (.refl _) (.cons (.box (.agg (.cons (.refl _) (.cons (.refl _) (.cons (.refl _) (.cons (.refl _) (.cons (.of_eq (congrArg (AV.own _ 0) (by simp))) .nil))))))) (.cons (.refl _) (.cons (.refl _) .nil)))))⟩
    ·refine s_dol (o_appendd (j := 4) (L := (([] ++ j_1.Keys).map AV.str)) (len := ([] ++ j_1.Keys).length) rfl false rfl rfl (fun _ => flm (fun _ => rfl) _) (fun _ _ _ => flm (fun _ => rfl) _) (by decide) ((by simp)) (by simp <;> omega) g4 rfl rfl) (.inr ⟨⟨nle, rfl⟩, ⟨⟨trivial, rfl⟩, ⟨⟨nle, rfl⟩, ⟨⟨trivial, rfl⟩, ⟨⟨nle, rfl⟩, ⟨⟨trivial, rfl⟩, trivial⟩⟩⟩⟩⟩⟩) ?_ ?_
     ·refine s_dol (o_bslice (j := 4) (as' := []) rfl (fun _ => by decide) trivial (.refl _) rfl rfl rfl) (.inr ⟨⟨nle, rfl⟩, ⟨⟨trivial, rfl⟩, ⟨⟨nle, rfl⟩, ⟨⟨trivial, rfl⟩, ⟨⟨nle, rfl⟩, ⟨⟨trivial, rfl⟩, ⟨⟨nle, rfl⟩, ⟨⟨trivial, rfl⟩, trivial⟩⟩⟩⟩⟩⟩⟩⟩) trivial ?_
      refine s_dol (o_appendd (j := 5) (L := (([] ++ j_1.Keys).map AV.str)) (len := ([] ++ j_1.Keys).length) rfl false rfl rfl (fun _ => flm (fun _ => rfl) _) (fun _ _ _ => flm (fun _ => rfl) _) (by decide) ((by simp)) (by simp <;> omega) g4 rfl rfl) (.inr ⟨⟨nle, rfl⟩, ⟨⟨trivial, rfl⟩, ⟨⟨nle, rfl⟩, ⟨⟨trivial, rfl⟩, ⟨⟨nle, rfl⟩, ⟨⟨trivial, rfl⟩, trivial⟩⟩⟩⟩⟩⟩) trivial ?_
      refine s_q (.agg [(.int .i64 j_1.Kind), (.int .i64 j_1.N), (.str j_1.T), (.own 5 0 (([] ++ j_1.Keys).length)), (.own 4 0 0)]) rfl ⟨⟨rfl, nle, trivial⟩, ⟨⟨rfl, nle, trivial⟩, ⟨⟨rfl, nle, trivial⟩, ⟨⟨rfl, nle, trivial⟩, ⟨⟨rfl, nle, trivial⟩, trivial⟩⟩⟩⟩⟩ rfl <| s_dol0 (o_storebox (v := (.agg [(.int .i64 j_1.Kind), (.int .i64 j_1.N), (.str j_1.T), (.own 5 0 (([] ++ j_1.Keys).length)), (.own 4 0 0)])) (y' := (.agg [(.int .i64 j_1.Kind), (.int .i64 j_1.N), (.str j_1.T), (.own 5 0 (([] ++ j_1.Keys).length)), (.own 4 0 0)])) rfl rfl rfl trivial ⟨rfl, nle⟩ ⟨⟨rfl, trivial⟩, ⟨⟨rfl, trivial⟩, ⟨⟨rfl, trivial⟩, ⟨⟨rfl, trivial⟩, ⟨⟨rfl, trivial⟩, trivial⟩⟩⟩⟩⟩ rfl) trivial trivial <| w_done <| ?_; obtain rfl := os hb1; exact ⟨[], [0, 1, 2, 5, 4], _, _, rfl, rfl, ⟨.refl _, ⟨.refl _, ⟨.refl _, trivial⟩⟩⟩, (.cons (.refl _) (.cons (.refl _) (.cons (.box (.agg (.cons (.refl _) (.cons (.refl _) (.cons (.refl _) (.cons (.refl _) (.cons (.of_eq (congrArg (AV.own _ 0) (by simp))) .nil))))))) (.cons (.refl _) (.cons (.refl _) .nil)))))⟩
     ·refine s_dol (o_bslice (j := 5) (as' := []) rfl (fun _ => by decide) trivial (.refl _) rfl rfl rfl) (.inr ⟨⟨nle, rfl⟩, ⟨⟨trivial, rfl⟩, ⟨⟨nle, rfl⟩, ⟨⟨trivial, rfl⟩, ⟨⟨nle, rfl⟩, ⟨⟨trivial, rfl⟩, ⟨⟨nle, rfl⟩, ⟨⟨trivial, rfl⟩, trivial⟩⟩⟩⟩⟩⟩⟩⟩) trivial ?_; refine s_q (.agg [(.int .i64 j_1.Kind), (.int .i64 j_1.N), (.str j_1.T), (.own 4 0 (([] ++ j_1.Keys).length)), (.own 5 0 0)]) rfl ⟨⟨rfl, nle, trivial⟩, ⟨⟨rfl, nle, trivial⟩, ⟨⟨rfl, nle, trivial⟩, ⟨⟨rfl, nle, trivial⟩, ⟨⟨rfl, nle, trivial⟩, trivial⟩⟩⟩⟩⟩ rfl <| s_dol0 (o_storebox (v := (.agg [(.int .i64 j_1.Kind), (.int .i64 j_1.N), (.str j_1.T), (.own 4 0 (([] ++ j_1.Keys).length)), (.own 5 0 0)])) (y' := (.agg [(.int .i64 j_1.Kind), (.int .i64 j_1.N), (.str j_1.T), (.own 4 0 (([] ++ j_1.Keys).length)), (.own 5 0 0)])) rfl rfl rfl trivial ⟨rfl, nle⟩ ⟨⟨rfl, trivial⟩, ⟨⟨rfl, trivial⟩, ⟨⟨rfl, trivial⟩, ⟨⟨rfl, trivial⟩, ⟨⟨rfl, trivial⟩, trivial⟩⟩⟩⟩⟩ rfl) trivial trivial <| ?_
      refine w_done ?_; obtain rfl := os hb1; exact ⟨[], [0, 1, 2, 4, 5], _, _, rfl, rfl, ⟨.refl _, ⟨.refl _, ⟨.refl _, trivial⟩⟩⟩, (.cons (.refl _) (.cons (.refl _) (.cons (.box (.agg (.cons (.refl _) (.cons (.refl _) (.cons (.refl _) (.cons (.refl _) (.cons (.of_eq (congrArg (AV.own _ 0) (by simp))) .nil))))))) (.cons (.refl _) (.cons (.refl _) .nil)))))⟩
   ·refine s_dol (o_bslice (j := 3) (as' := []) rfl (fun _ => by decide) trivial (.refl _) rfl rfl rfl) (.inr ⟨⟨nle, rfl⟩, ⟨⟨trivial, rfl⟩, ⟨⟨nle, rfl⟩, ⟨⟨trivial, rfl⟩, ⟨⟨nle, rfl⟩, ⟨⟨trivial, rfl⟩, ⟨⟨nle, rfl⟩, ⟨⟨trivial, rfl⟩, trivial⟩⟩⟩⟩⟩⟩⟩⟩) ?_ ?_
    ·refine s_dol (o_box (j := 3) (c := (.agg [(.int .i64 0), (.int .i64 0), (.str []), .nil, .nil])) rfl trivial rfl rfl) (.inr ⟨⟨nle, rfl⟩, ⟨⟨trivial, rfl⟩, ⟨⟨nle, rfl⟩, ⟨⟨trivial, rfl⟩, ⟨⟨nle, rfl⟩, ⟨⟨trivial, rfl⟩, ⟨⟨nle, rfl⟩, ⟨⟨trivial, rfl⟩, trivial⟩⟩⟩⟩⟩⟩⟩⟩) trivial ?_; refine s_dol (o_bslice (j := 4) (as' := []) rfl (fun _ => by decide) trivial (.refl _) rfl rfl rfl) (.inr ⟨⟨nle, rfl⟩, ⟨⟨trivial, rfl⟩, ⟨⟨nle, rfl⟩, ⟨⟨trivial, rfl⟩, ⟨⟨nle, rfl⟩, ⟨⟨trivial, rfl⟩, ⟨⟨nle, rfl⟩, ⟨⟨trivial, rfl⟩, trivial⟩⟩⟩⟩⟩⟩⟩⟩) trivial ?_
     refine s_dol (o_appendd (j := 5) (L := (([] ++ j_1.Keys).map AV.str)) (len := ([] ++ j_1.Keys).length) rfl false rfl rfl (fun _ => flm (fun _ => rfl) _) (fun _ _ _ => flm (fun _ => rfl) _) (by decide) ((by simp)) (by simp <;> omega) g4 rfl rfl) (.inr ⟨⟨nle, rfl⟩, ⟨⟨trivial, rfl⟩, ⟨⟨nle, rfl⟩, ⟨⟨trivial, rfl⟩, ⟨⟨nle, rfl⟩, ⟨⟨trivial, rfl⟩, trivial⟩⟩⟩⟩⟩⟩) trivial ?_
     refine s_q (.agg [(.int .i64 j_1.Kind), (.int .i64 j_1.N), (.str j_1.T), (.own 5 0 (([] ++ j_1.Keys).length)), (.own 2 0 0)]) rfl ⟨⟨rfl, nle, trivial⟩, ⟨⟨rfl, nle, trivial⟩, ⟨⟨rfl, nle, trivial⟩, ⟨⟨rfl, nle, trivial⟩, ⟨⟨rfl, nle, trivial⟩, trivial⟩⟩⟩⟩⟩ rfl <| s_dol0 (o_storebox (v := (.agg [(.int .i64 j_1.Kind), (.int .i64 j_1.N), (.str j_1.T), (.own 5 0 (([] ++ j_1.Keys).length)), (.own 2 0 0)])) (y' := (.agg [(.int .i64 j_1.Kind), (.int .i64 j_1.N), (.str j_1.T), (.own 5 0 (([] ++ j_1.Keys).length)), (.own 2 0 0)])) rfl rfl rfl trivial ⟨rfl, nle⟩ ⟨⟨rfl, trivial⟩, ⟨⟨rfl, trivial⟩, ⟨⟨rfl, trivial⟩, ⟨⟨rfl, trivial⟩, ⟨⟨rfl, trivial⟩, trivial⟩⟩⟩⟩⟩ rfl) trivial trivial <| w_done <| ?_; obtain rfl := os hb1; exact ⟨[], [0, 1, 3, 5, 2], _, _, rfl, rfl, ⟨.refl _, ⟨.refl _, ⟨.refl _, trivial⟩⟩⟩, (.cons (.refl _) (.cons (.refl _) (.cons (.box (.agg (.cons (.refl _) (.cons (.refl _) (.cons (.refl _) (.cons (.refl _) (.cons (.of_eq (congrArg (AV.own _ 0) (by simp))) .nil))))))) (.cons (.refl _) (.cons (.refl _) .nil)))))⟩
    ·refine s_dol (o_appendd (j := 4) (L := (([] ++ j_1.Keys).map AV.str)) (len := ([] ++ j_1.Keys).length) rfl false rfl rfl (fun _ => flm (fun _ => rfl) _) (fun _ _ _ => flm (fun _ => rfl) _) (by decide) ((by simp)) (by simp <;> omega) g4 rfl rfl) (.inr ⟨⟨nle, rfl⟩, ⟨⟨trivial, rfl⟩, ⟨⟨nle, rfl⟩, ⟨⟨trivial, rfl⟩, ⟨⟨nle, rfl⟩, ⟨⟨trivial, rfl⟩, trivial⟩⟩⟩⟩⟩⟩) ?_ ?_
     ·refine s_dol (o_box (j := 4) (c := (.agg [(.int .i64 0), (.int .i64 0), (.str []), .nil, .nil])) rfl trivial rfl rfl) (.inr ⟨⟨nle, rfl⟩, ⟨⟨trivial, rfl⟩, ⟨⟨nle, rfl⟩, ⟨⟨trivial, rfl⟩, ⟨⟨nle, rfl⟩, ⟨⟨trivial, rfl⟩, ⟨⟨nle, rfl⟩, ⟨⟨trivial, rfl⟩, trivial⟩⟩⟩⟩⟩⟩⟩⟩) trivial ?_
      refine s_dol (o_appendd (j := 5) (L := (([] ++ j_1.Keys).map AV.str)) (len := ([] ++ j_1.Keys).length) rfl false rfl rfl (fun _ => flm (fun _ => rfl) _) (fun _ _ _ => flm (fun _ => rfl) _) (by decide) ((by simp)) (by simp <;> omega) g4 rfl rfl) (.inr ⟨⟨nle, rfl⟩, ⟨⟨trivial, rfl⟩, ⟨⟨nle, rfl⟩, ⟨⟨trivial, rfl⟩, ⟨⟨nle, rfl⟩, ⟨⟨trivial, rfl⟩, trivial⟩⟩⟩⟩⟩⟩) trivial ?_
      refine s_q (.agg [(.int .i64 j_1.Kind), (.int .i64 j_1.N), (.str j_1.T), (.own 5 0 (([] ++ j_1.Keys).length)), (.own 2 0 0)]) rfl ⟨⟨rfl, nle, trivial⟩, ⟨⟨rfl, nle, trivial⟩, ⟨⟨rfl, nle, trivial⟩, ⟨⟨rfl, nle, trivial⟩, ⟨⟨rfl, nle, trivial⟩, trivial⟩⟩⟩⟩⟩ rfl <| s_dol0 (o_storebox (v := (.agg [(.int .i64 j_1.Kind), (.int .i64 j_1.N), (.str j_1.T), (.own 5 0 (([] ++ j_1.Keys).length)), (.own 2 0 0)])) (y' := (.agg [(.int .i64 j_1.Kind), (.int .i64 j_1.N), (.str j_1.T), (.own 5 0 (([] ++ j_1.Keys).length)), (.own 2 0 0)])) rfl rfl rfl trivial ⟨rfl, nle⟩ ⟨⟨rfl, trivial⟩, ⟨⟨rfl, trivial⟩, ⟨⟨rfl, trivial⟩, ⟨⟨rfl, trivial⟩, ⟨⟨rfl, trivial⟩, trivial⟩⟩⟩⟩⟩ rfl) trivial trivial <| w_done <| ?_; obtain rfl := os hb1; exact ⟨[], [0, 1, 4, 5, 2], _, _, rfl, rfl, ⟨.refl _, ⟨.refl _, ⟨.refl _, trivial⟩⟩⟩, (.cons (.refl _) (.cons (.refl _) (.cons (.box (.agg (.cons (.refl _) (.cons (.refl _) (.cons (.refl _) (.cons (.refl _) (.cons (.of_eq (congrArg (AV.own _ 0) (by simp))) .nil))))))) (.cons (.refl _) (.cons (.refl _) .nil)))))⟩
     ·refine s_q (.agg [(.int .i64 j_1.Kind), (.int .i64 j_1.N), (.str j_1.T), (.own 4 0 (([] ++ j_1.Keys).length)), (.own 2 0 0)]) rfl ⟨⟨rfl, nle, trivial⟩, ⟨⟨rfl, nle, trivial⟩, ⟨⟨rfl, nle, trivial⟩, ⟨⟨rfl, nle, trivial⟩, ⟨⟨rfl, nle, trivial⟩, trivial⟩⟩⟩⟩⟩ rfl <| s_dol (o_box (j := 5) (c := (.agg [(.int .i64 0), (.int .i64 0), (.str []), .nil, .nil])) rfl trivial rfl rfl) (.inr ⟨⟨⟨⟨rfl, nle, trivial⟩, ⟨⟨rfl, nle, trivial⟩, ⟨⟨rfl, nle, trivial⟩, ⟨⟨rfl, nle, trivial⟩, ⟨⟨rfl, nle, trivial⟩, trivial⟩⟩⟩⟩⟩, rfl⟩, ⟨⟨nle, rfl⟩, ⟨⟨trivial, rfl⟩, ⟨⟨nle, rfl⟩, ⟨⟨trivial, rfl⟩, ⟨⟨nle, rfl⟩, ⟨⟨trivial, rfl⟩, ⟨⟨nle, rfl⟩, ⟨⟨trivial, rfl⟩, trivial⟩⟩⟩⟩⟩⟩⟩⟩⟩) trivial <| s_dol0 (o_storebox (v := (.agg [(.int .i64 j_1.Kind), (.int .i64 j_1.N), (.str j_1.T), (.own 4 0 (([] ++ j_1.Keys).length)), (.own 2 0 0)])) (y' := (.agg [(.int .i64 j_1.Kind), (.int .i64 j_1.N), (.str j_1.T), (.own 4 0 (([] ++ j_1.Keys).length)), (.own 2 0 0)])) rfl rfl rfl trivial ⟨rfl, nle⟩ ⟨⟨rfl, trivial⟩, ⟨⟨rfl, trivial⟩, ⟨⟨rfl, trivial⟩, ⟨⟨rfl, trivial⟩, ⟨⟨rfl, trivial⟩, trivial⟩⟩⟩⟩⟩ rfl) trivial trivial <| ?_
      refine w_done ?_; obtain rfl := os hb1; exact ⟨[], [0, 1, 5, 4, 2], _, _, rfl, rfl, ⟨.refl _, ⟨.refl _, ⟨.refl _, trivial⟩⟩⟩, (.cons (.refl _) (.cons (.refl _) (.cons (.box (.agg (.cons (.refl _) (.cons (.refl _) (.cons (.refl _) (.cons (.refl _) (.cons (.of_eq (congrArg (AV.own _ 0) (by simp))) .nil))))))) (.cons (.refl _) (.cons (.refl _) .nil)))))⟩
  ·refine s_dol (o_appendd (j := 3) (L := (([] ++ j_1.Keys).map AV.str)) (len := ([] ++ j_1.Keys).length) rfl false rfl rfl (fun _ => flm (fun _ => rfl) _) (fun _ _ _ => flm (fun _ => rfl) _) (by decide) ((by simp)) (by simp <;> omega) g4 rfl rfl) (.inr ⟨⟨nle, rfl⟩, ⟨⟨trivial, rfl⟩, ⟨⟨nle, rfl⟩, ⟨⟨trivial, rfl⟩, ⟨⟨nle, rfl⟩, ⟨⟨trivial, rfl⟩, trivial⟩⟩⟩⟩⟩⟩) ?_ ?_
   ·refine s_dol (o_bslice (j := 3) (as' := []) rfl (fun _ => by decide) trivial (.refl _) rfl rfl rfl) (.inr ⟨⟨nle, rfl⟩, ⟨⟨trivial, rfl⟩, ⟨⟨nle, rfl⟩, ⟨⟨trivial, rfl⟩, ⟨⟨nle, rfl⟩, ⟨⟨trivial, rfl⟩, ⟨⟨nle, rfl⟩, ⟨⟨trivial, rfl⟩, trivial⟩⟩⟩⟩⟩⟩⟩⟩) ?_ ?_
    ·refine s_dol (o_box (j := 3) (c := (.agg [(.int .i64 0), (.int .i64 0), (.str []), .nil, .nil])) rfl trivial rfl rfl) (.inr ⟨⟨nle, rfl⟩, ⟨⟨trivial, rfl⟩, ⟨⟨nle, rfl⟩, ⟨⟨trivial, rfl⟩, ⟨⟨nle, rfl⟩, ⟨⟨trivial, rfl⟩, ⟨⟨nle, rfl⟩, ⟨⟨trivial, rfl⟩, trivial⟩⟩⟩⟩⟩⟩⟩⟩) trivial ?_
     refine s_dol (o_appendd (j := 4) (L := (([] ++ j_1.Keys).map AV.str)) (len := ([] ++ j_1.Keys).length) rfl false rfl rfl (fun _ => flm (fun _ => rfl) _) (fun _ _ _ => flm (fun _ => rfl) _) (by decide) ((by simp)) (by simp <;> omega) g4 rfl rfl) (.inr ⟨⟨nle, rfl⟩, ⟨⟨trivial, rfl⟩, ⟨⟨nle, rfl⟩, ⟨⟨trivial, rfl⟩, ⟨⟨nle, rfl⟩, ⟨⟨trivial, rfl⟩, trivial⟩⟩⟩⟩⟩⟩) ?_ ?_
     ·refine s_dol (o_bslice (j := 4) (as' := []) rfl (fun _ => by decide) trivial (.refl _) rfl rfl rfl) (.inr ⟨⟨nle, rfl⟩, ⟨⟨trivial, rfl⟩, ⟨⟨nle, rfl⟩, ⟨⟨trivial, rfl⟩, ⟨⟨nle, rfl⟩, ⟨⟨trivial, rfl⟩, ⟨⟨nle, rfl⟩, ⟨⟨trivial, rfl⟩, trivial⟩⟩⟩⟩⟩⟩⟩⟩) trivial ?_
      refine s_dol (o_appendd (j := 5) (L := (([] ++ j_1.Keys).map AV.str)) (len := ([] ++ j_1.Keys).length) rfl false rfl rfl (fun _ => flm (fun _ => rfl) _) (fun _ _ _ => flm (fun _ => rfl) _) (by decide) ((by simp)) (by simp <;> omega) g4 rfl rfl) (.inr ⟨⟨nle, rfl⟩, ⟨⟨trivial, rfl⟩, ⟨⟨nle, rfl⟩, ⟨⟨trivial, rfl⟩, ⟨⟨nle, rfl⟩, ⟨⟨trivial, rfl⟩, trivial⟩⟩⟩⟩⟩⟩) trivial ?_
      refine s_q (.agg [(.int .i64 j_1.Kind), (.int .i64 j_1.N), (.str j_1.T), (.own 5 0 (([] ++ j_1.Keys).length)), (.own 4 0 0)]) rfl ⟨⟨rfl, nle, trivial⟩, ⟨⟨rfl, nle, trivial⟩, ⟨⟨rfl, nle, trivial⟩, ⟨⟨rfl, nle, trivial⟩, ⟨⟨rfl, nle, trivial⟩, trivial⟩⟩⟩⟩⟩ rfl <| s_dol0 (o_storebox (v := (.agg [(.int .i64 j_1.Kind), (.int .i64 j_1.N), (.str j_1.T), (.own 5 0 (([] ++ j_1.Keys).length)), (.own 4 0 0)])) (y' := (.agg [(.int .i64 j_1.Kind), (.int .i64 j_1.N), (.str j_1.T), (.own 5 0 (([] ++ j_1.Keys).length)), (.own 4 0 0)])) rfl rfl rfl trivial ⟨rfl, nle⟩ ⟨⟨rfl, trivial⟩, ⟨⟨rfl, trivial⟩, ⟨⟨rfl, trivial⟩, ⟨⟨rfl, trivial⟩, ⟨⟨rfl, trivial⟩, trivial⟩⟩⟩⟩⟩ rfl) trivial trivial <| w_done <| ?_; obtain rfl := os hb1; exact ⟨[], [0, 1, 3, 5, 4], _, _, rfl, rfl, ⟨.refl _, ⟨.refl _, ⟨.refl _, trivial⟩⟩⟩, (.cons (.refl _) (.cons (.refl _) (.cons (.box (.agg (.cons (.refl _) (.cons (.refl _) (.cons (.refl _) (.cons (.refl _) (.cons (.of_eq (congrArg (AV.own _ 0) (by simp))) .nil))))))) (.cons (.refl _) (.cons (.refl _) .nil)))))⟩
     ·refine s_dol (o_bslice (j := 5) (as' := []) rfl (fun _ => by decide) trivial (.refl _) rfl rfl rfl) (.inr ⟨⟨nle, rfl⟩, ⟨⟨trivial, rfl⟩, ⟨⟨nle, rfl⟩, ⟨⟨trivial, rfl⟩, ⟨⟨nle, rfl⟩, ⟨⟨trivial, rfl⟩, ⟨⟨nle, rfl⟩, ⟨⟨trivial, rfl⟩, trivial⟩⟩⟩⟩⟩⟩⟩⟩) trivial ?_; refine s_q (.agg [(.int .i64 j_1.Kind), (.int .i64 j_1.N), (.str j_1.T), (.own 4 0 (([] ++ j_1.Keys).length)), (.own 5 0 0)]) rfl ⟨⟨rfl, nle, trivial⟩, ⟨⟨rfl, nle, trivial⟩, ⟨⟨rfl, nle, trivial⟩, ⟨⟨rfl, nle, trivial⟩, ⟨⟨rfl, nle, trivial⟩, trivial⟩⟩⟩⟩⟩ rfl <| s_dol0 (o_storebox (v := (.agg [(.int .i64 j_1.Kind), (.int .i64 j_1.N), (.str j_1.T), (.own 4 0 (([] ++ j_1.Keys).length)), (.own 5 0 0)])) (y' := (.agg [(.int .i64 j_1.Kind), (.int .i64 j_1.N), (.str j_1.T), (.own 4 0 (([] ++ j_1.Keys).length)), (.own 5 0 0)])) rfl rfl rfl trivial ⟨rfl, nle⟩ ⟨⟨rfl, trivial⟩, ⟨⟨rfl, trivial⟩, ⟨⟨rfl, trivial⟩, ⟨⟨rfl, trivial⟩, ⟨⟨rfl, trivial⟩, trivial⟩⟩⟩⟩⟩ rfl) trivial trivial <| ?_
      refine w_done ?_; obtain rfl := os hb1; exact ⟨[], [0, 1, 3, 4, 5], _, _, rfl, rfl, ⟨.refl _, ⟨.refl _, ⟨.refl _, trivial⟩⟩⟩, (.cons (.refl _) (.cons (.refl _) (.cons (.box (.agg (.cons (.refl _) (.cons (.refl _) (.cons (.refl _) (.cons (.refl _) (.cons (.of_eq (congrArg (AV.own _ 0) (by simp))) .nil))))))) (.cons (.refl _) (.cons (.refl _) .nil)))))⟩
    ·refine s_dol (o_appendd (j := 4) (L := (([] ++ j_1.Keys).map AV.str)) (len := ([] ++ j_1.Keys).length) rfl false rfl rfl (fun _ => flm (fun _ => rfl) _) (fun _ _ _ => flm (fun _ => rfl) _) (by decide) ((by simp)) (by simp <;> omega) g4 rfl rfl) (.inr ⟨⟨nle, rfl⟩, ⟨⟨trivial, rfl⟩, ⟨⟨nle, rfl⟩, ⟨⟨trivial, rfl⟩, ⟨⟨nle, rfl⟩, ⟨⟨trivial, rfl⟩, trivial⟩⟩⟩⟩⟩⟩) ?_ ?_
     ·refine s_dol (o_box (j := 4) (c := (.agg [(.int .i64 0), (.int .i64 0), (.str []), .nil, .nil])) rfl trivial rfl rfl) (.inr ⟨⟨nle, rfl⟩, ⟨⟨trivial, rfl⟩, ⟨⟨nle, rfl⟩, ⟨⟨trivial, rfl⟩, ⟨⟨nle, rfl⟩, ⟨⟨trivial, rfl⟩, ⟨⟨nle, rfl⟩, ⟨⟨trivial, rfl⟩, trivial⟩⟩⟩⟩⟩⟩⟩⟩) trivial ?_
      refine s_dol (o_appendd (j := 5) (L := (([] ++ j_1.Keys).map AV.str)) (len := ([] ++ j_1.Keys).length) rfl false rfl rfl (fun _ => flm (fun _ => rfl) _) (fun _ _ _ => flm (fun _ => rfl) _) (by decide) ((by simp)) (by simp <;> omega) g4 rfl rfl) (.inr ⟨⟨nle, rfl⟩, ⟨⟨trivial, rfl⟩, ⟨⟨nle, rfl⟩, ⟨⟨trivial, rfl⟩, ⟨⟨nle, rfl⟩, ⟨⟨trivial, rfl⟩, trivial⟩⟩⟩⟩⟩⟩) trivial ?_
      refine s_q (.agg [(.int .i64 j_1.Kind), (.int .i64 j_1.N), (.str j_1.T), (.own 5 0 (([] ++ j_1.Keys).length)), (.own 3 0 0)]) rfl ⟨⟨rfl, nle, trivial⟩, ⟨⟨rfl, nle, trivial⟩, ⟨⟨rfl, nle, trivial⟩, ⟨⟨rfl, nle, trivial⟩, ⟨⟨rfl, nle, trivial⟩, trivial⟩⟩⟩⟩⟩ rfl <| s_dol0 (o_storebox (v := (.agg [(.int .i64 j_1.Kind), (.int .i64 j_1.N), (.str j_1.T), (.own 5 0 (([] ++ j_1.Keys).length)), (.own 3 0 0)])) (y' := (.agg [(.int .i64 j_1.Kind), (.int .i64 j_1.N), (.str j_1.T), (.own 5 0 (([] ++ j_1.Keys).length)), (.own 3 0 0)])) rfl rfl rfl trivial ⟨rfl, nle⟩ ⟨⟨rfl, trivial⟩, ⟨⟨rfl, trivial⟩, ⟨⟨rfl, trivial⟩, ⟨⟨rfl, trivial⟩, ⟨⟨rfl, trivial⟩, trivial⟩⟩⟩⟩⟩ rfl) trivial trivial <| w_done <| ?_; obtain rfl := os hb1; exact ⟨[], [0, 1, 4, 5, 3], _, _, rfl, rfl, ⟨.refl _, ⟨.refl _, ⟨.refl _, trivial⟩⟩⟩, (.cons (.refl _) (.cons (.refl _) (.cons (.box (.agg (.cons (.refl _) (.cons (.refl _) (.cons (.refl _) (.cons (.refl _) (.cons (.of_eq (congrArg (AV.own _ 0) (by simp))) .nil))))))) (.cons (.refl _) (.cons (.refl _) .nil)))))⟩
     ·refine s_q (.agg [(.int .i64 j_1.Kind), (.int .i64 j_1.N), (.str j_1.T), (.own 4 0 (([] ++ j_1.Keys).length)), (.own 3 0 0)]) rfl ⟨⟨rfl, nle, trivial⟩, ⟨⟨rfl, nle, trivial⟩, ⟨⟨rfl, nle, trivial⟩, ⟨⟨rfl, nle, trivial⟩, ⟨⟨rfl, nle, trivial⟩, trivial⟩⟩⟩⟩⟩ rfl <| s_dol (o_box (j := 5) (c := (.agg [(.int .i64 0), (.int .i64 0), (.str []), .nil, .nil])) rfl trivial rfl rfl) (.inr ⟨⟨⟨⟨rfl, nle, trivial⟩, ⟨⟨rfl, nle, trivial⟩, ⟨⟨rfl, nle, trivial⟩, ⟨⟨rfl, nle, trivial⟩, ⟨⟨rfl, nle, trivial⟩, trivial⟩⟩⟩⟩⟩, rfl⟩, ⟨⟨nle, rfl⟩, ⟨⟨trivial, rfl⟩, ⟨⟨nle, rfl⟩, ⟨⟨trivial, rfl⟩, ⟨⟨nle, rfl⟩, ⟨⟨trivial, rfl⟩, ⟨⟨nle, rfl⟩, ⟨⟨trivial, rfl⟩, trivial⟩⟩⟩⟩⟩⟩⟩⟩⟩) trivial <| s_dol0 (o_storebox (v := (.agg [(.int .i64 j_1.Kind), (.int .i64 j_1.N), (.str j_1.T), (.own 4 0 (([] ++ j_1.Keys).length)), (.own 3 0 0)])) (y' := (.agg [(.int .i64 j_1.Kind), (.int .i64 j_1.N), (.str j_1.T), (.own 4 0 (([] ++ j_1.Keys).length)), (.own 3 0 0)])) rfl rfl rfl trivial ⟨rfl, nle⟩ ⟨⟨rfl, trivial⟩, ⟨⟨rfl, trivial⟩, ⟨⟨rfl, trivial⟩, ⟨⟨rfl, trivial⟩, ⟨⟨rfl, trivial⟩, trivial⟩⟩⟩⟩⟩ rfl) trivial trivial <| ?_
      refine w_done ?_; obtain rfl := os hb1; exact ⟨[], [0, 1, 5, 4, 3], _, _, rfl, rfl, ⟨.refl _, ⟨.refl _, ⟨.refl _, trivial⟩⟩⟩, (.cons (.refl _) (.cons (.refl _) (.cons (.box (.agg (.cons (.refl _) (.cons (.refl _) (.cons (.refl _) (.cons (.refl _) (.cons (.of_eq (congrArg (AV.own _ 0) (by simp))) .nil))))))) (.cons (.refl _) (.cons (.refl _) .nil)))))⟩
   ·refine s_dol (o_bslice (j := 4) (as' := []) rfl (fun _ => by decide) trivial (.refl _) rfl rfl rfl) (.inr ⟨⟨nle, rfl⟩, ⟨⟨trivial, rfl⟩, ⟨⟨nle, rfl⟩, ⟨⟨trivial, rfl⟩, ⟨⟨nle, rfl⟩, ⟨⟨trivial, rfl⟩, ⟨⟨nle, rfl⟩, ⟨⟨trivial, rfl⟩, trivial⟩⟩⟩⟩⟩⟩⟩⟩) ?_ ?_
    ·refine s_dol (o_box (j := 4) (c := (.agg [(.int .i64 0), (.int .i64 0), (.str []), .nil, .nil])) rfl trivial rfl rfl) (.inr ⟨⟨nle, rfl⟩, ⟨⟨trivial, rfl⟩, ⟨⟨nle, rfl⟩, ⟨⟨trivial, rfl⟩, ⟨⟨nle, rfl⟩, ⟨⟨trivial, rfl⟩, ⟨⟨nle, rfl⟩, ⟨⟨trivial, rfl⟩, trivial⟩⟩⟩⟩⟩⟩⟩⟩) trivial ?_; refine s_dol (o_bslice (j := 5) (as' := []) rfl (fun _ => by decide) trivial (.refl _) rfl rfl rfl) (.inr ⟨⟨nle, rfl⟩, ⟨⟨trivial, rfl⟩, ⟨⟨nle, rfl⟩, ⟨⟨trivial, rfl⟩, ⟨⟨nle, rfl⟩, ⟨⟨trivial, rfl⟩, ⟨⟨nle, rfl⟩, ⟨⟨trivial, rfl⟩, trivial⟩⟩⟩⟩⟩⟩⟩⟩) trivial ?_; refine s_q (.agg [(.int .i64 j_1.Kind), (.int .i64 j_1.N), (.str j_1.T), (.own 3 0 (([] ++ j_1.Keys).length)), (.own 5 0 0)]) rfl ⟨⟨rfl, nle, trivial⟩, ⟨⟨rfl, nle, trivial⟩, ⟨⟨rfl, nle, trivial⟩, ⟨⟨rfl, nle, trivial⟩, ⟨⟨rfl, nle, trivial⟩, trivial⟩⟩⟩⟩⟩ rfl ?_
     refine s_dol0 (o_storebox (v := (.agg [(.int .i64 j_1.Kind), (.int .i64 j_1.N), (.str j_1.T), (.own 3 0 (([] ++ j_1.Keys).length)), (.own 5 0 0)])) (y' := (.agg [(.int .i64 j_1.Kind), (.int .i64 j_1.N), (.str j_1.T), (.own 3 0 (([] ++ j_1.Keys).length)), (.own 5 0 0)])) rfl rfl rfl trivial ⟨rfl, nle⟩ ⟨⟨rfl, trivial⟩, ⟨⟨rfl, trivial⟩, ⟨⟨rfl, trivial⟩, ⟨⟨rfl, trivial⟩, ⟨⟨rfl, trivial⟩, trivial⟩⟩⟩⟩⟩ rfl) trivial trivial <| w_done <| ?_; obtain rfl := os hb1; exact ⟨[], [0, 1, 4, 3, 5], _, _, rfl, rfl, ⟨.refl _, ⟨.refl _, ⟨.refl _, trivial⟩⟩⟩, (.cons (.refl _) (.cons (.refl _) (.cons (.box (.agg (.cons (.refl _) (.cons (.refl _) (.cons (.refl _) (.cons (.refl _) (.cons (.of_eq (congrArg (AV.own _ 0) (by simp))) .nil))))))) (.cons (.refl _) (.cons (.refl _) .nil)))))⟩
    ·refine s_q (.agg [(.int .i64 j_1.Kind), (.int .i64 j_1.N), (.str j_1.T), (.own 3 0 (([] ++ j_1.Keys).length)), (.own 4 0 0)]) rfl ⟨⟨rfl, nle, trivial⟩, ⟨⟨rfl, nle, trivial⟩, ⟨⟨rfl, nle, trivial⟩, ⟨⟨rfl, nle, trivial⟩, ⟨⟨rfl, nle, trivial⟩, trivial⟩⟩⟩⟩⟩ rfl <| s_dol (o_box (j := 5) (c := (.agg [(.int .i64 0), (.int .i64 0), (.str []), .nil, .nil])) rfl trivial rfl rfl) (.inr ⟨⟨⟨⟨rfl, nle, trivial⟩, ⟨⟨rfl, nle, trivial⟩, ⟨⟨rfl, nle, trivial⟩, ⟨⟨rfl, nle, trivial⟩, ⟨⟨rfl, nle, trivial⟩, trivial⟩⟩⟩⟩⟩, rfl⟩, ⟨⟨nle, rfl⟩, ⟨⟨trivial, rfl⟩, ⟨⟨nle, rfl⟩, ⟨⟨trivial, rfl⟩, ⟨⟨nle, rfl⟩, ⟨⟨trivial, rfl⟩, ⟨⟨nle, rfl⟩, ⟨⟨trivial, rfl⟩, trivial⟩⟩⟩⟩⟩⟩⟩⟩⟩) trivial <| s_dol0 (o_storebox (v := (.agg [(.int .i64 j_1.Kind), (.int .i64 j_1.N), (.str j_1.T), (.own 3 0 (([] ++ j_1.Keys).length)), (.own 4 0 0)])) (y' := (.agg [(.int .i64 j_1.Kind), (.int .i64 j_1.N), (.str j_1.T), (.own 3 0 (([] ++ j_1.Keys).length)), (.own 4 0 0)])) rfl rfl rfl trivial ⟨rfl, nle⟩ ⟨⟨rfl, trivial⟩, ⟨⟨rfl, trivial⟩, ⟨⟨rfl, trivial⟩, ⟨⟨rfl, trivial⟩, ⟨⟨rfl, trivial⟩, trivial⟩⟩⟩⟩⟩ rfl) trivial trivial <| ?_
     refine w_done ?_; obtain rfl := os hb1; exact ⟨[], [0, 1, 5, 3, 4], _, _, rfl, rfl, ⟨.refl _, ⟨.refl _, ⟨.refl _, trivial⟩⟩⟩, (.cons (.refl _) (.cons (.refl _) (.cons (.box (.agg (.cons (.refl _) (.cons (.refl _) (.cons (.refl _) (.cons (.refl _) (.cons (.of_eq (congrArg (AV.own _ 0) (by simp))) .nil))))))) (.cons (.refl _) (.cons (.refl _) .nil)))))⟩
 ·refine awp_seq <| awp_seq <| w_reg <| s_mov (.int .i64 0) rfl <| w_done <| k_seq <| ?_
  obtain ⟨x_31, hb1, hf⟩ := ob hf
  refine awp_cut ([(2, (.ptr 0 0 0)), (3, (.ptr 1 0 0))], [.box 5 (.agg [(.int .i64 0), (.int .i64 0), (.str []), .nil, .nil]), .box 5 (.agg [(.int .i64 j_1.Kind), (.int .i64 j_1.N), (.str j_1.T), (.own 2 0 (([] ++ j_1.Keys).length)), (.own 3 0 x_31.length)]), .row 1 (([] ++ j_1.Keys).map AV.str), .row 5 (x_31.map encGJson)]) ?_ ?_
  ·refine awp_loop (X := {q : (Nat × (List GJson)) // spec_l01Own_B_L1 rec (j_1.Items.drop q.1) q.2 = some x_31}) (fun q => ([(1, (.ptr 0 0 0)), (2, (.ptr 1 0 0)), (3, (.ptr 2 0 0)), (4, (.int .i64 (q.1.1 : Int)))], [.box 5 (.agg [(.int .i64 j_1.Kind), (.int .i64 j_1.N), (.str j_1.T), (.lst 1 (j_1.Keys.map AV.str)), (.lst 5 (j_1.Items.map encGJson))]), .box 5 (.agg [(.int .i64 0), (.int .i64 0), (.str []), .nil, .nil]), .box 5 (.agg [(.int .i64 j_1.Kind), (.int .i64 j_1.N), (.str j_1.T), (.own 3 0 (([] ++ j_1.Keys).length)), (.own 4 0 q.1.2.length)]), .row 1 (([] ++ j_1.Keys).map AV.str), .row 5 (q.1.2.map encGJson)])) (fun q => j_1.Items.length - q.1.1) ⟨(0, []), hb1⟩ ⟨[], [0, 1, 2, 3, 4], _, _, rfl, rfl, ⟨.refl _, ⟨.refl _, ⟨.refl _, ⟨.refl _, trivial⟩⟩⟩⟩, (.refl _)⟩ ?_
   rintro ⟨⟨i_21, x_22⟩, hc1⟩
   have hc1 : spec_l01Own_B_L1 rec (j_1.Items.drop i_21) x_22 = some x_31 := hc1
   refine (show awp Try.prog true 0 _ (ofL [(1, (.ptr 0 0 0)), (2, (.ptr 1 0 0)), (3, (.ptr 2 0 0)), (4, (.int .i64 (i_21 : Int)))]) [.box 5 (.agg [(.int .i64 j_1.Kind), (.int .i64 j_1.N), (.str j_1.T), (.lst 1 (j_1.Keys.map AV.str)), (.lst 5 (j_1.Items.map encGJson))]), .box 5 (.agg [(.int .i64 0), (.int .i64 0), (.str []), .nil, .nil]), .box 5 (.agg [(.int .i64 j_1.Kind), (.int .i64 j_1.N), (.str j_1.T), (.own 3 0 (([] ++ j_1.Keys).length)), (.own 4 0 x_22.length)]), .row 1 (([] ++ j_1.Keys).map AV.str), .row 5 (x_22.map encGJson)] _ from ?_)
   rcases dropc j_1.Items i_21 with ⟨hie35, hd38⟩ | ⟨hlt33, x_39, hx34, hd38⟩
   ·rw [hd38, spec_l01Own_B_L1.eq_1] at hc1
    have hq37 := dlf hie35
    refine awp_seq <| awp_seq <| w_reg <| s_mov (.int .i64 (i_21 : Int)) rfl <| s_q (.ptr 0 0 4) rfl trivial rfl <| s_q (.lst 5 (j_1.Items.map encGJson)) rfl nle rfl <| s_dof (o_len (enc := encGJson) rfl) fun hl40 => s_q (.bool (decide ((i_21 : Int) < (j_1.Items.length : Int)))) rfl rfl rfl <| w_done <| k_seq <| w_condf rfl hq37 <| w_exit <| k_seqx <| k_loopx <| k_blkx <| ?_; obtain rfl := os hc1; exact ⟨[], [1, 2, 3, 4], _, _, rfl, rfl, ⟨.refl _, ⟨.refl _, trivial⟩⟩, (.refl _)⟩
   ·rw [hd38, spec_l01Own_B_L1.eq_2] at hc1
    have hq37 := dlt hlt33
    refine awp_seq <| awp_seq <| w_reg <| s_mov (.int .i64 (i_21 : Int)) rfl <| s_q (.ptr 0 0 4) rfl trivial rfl <| s_q (.lst 5 (j_1.Items.map encGJson)) rfl nle rfl <| s_dof (o_len (enc := encGJson) rfl) fun hl41 => s_q (.bool (decide ((i_21 : Int) < (j_1.Items.length : Int)))) rfl rfl rfl <| w_done <| k_seq <| w_condt rfl hq37 <| w_skip <| k_seq <| awp_seq <| w_blk <| w_reg <| ?_
    obtain ⟨r_42, er43, hc1⟩ := ob hc1
    obtain ⟨g44, hc1⟩ := og hc1
    refine s_q (.ptr 2 0 4) rfl trivial rfl <| s_q (.own 4 0 x_22.length) rfl nle rfl <| s_q (.ptr 0 0 4) rfl trivial rfl <| s_q (.lst 5 (j_1.Items.map encGJson)) rfl nle rfl <| s_mov (.int .i64 (i_21 : Int)) rfl <| s_do (o_iaddrn (enc := encGJson) rfl rfl hx34) <| s_do (o_loadeq (v := (.agg [(.int .i64 x_39.Kind), (.int .i64 x_39.N), (.str x_39.T), (.lst 1 (x_39.Keys.map AV.str)), (.lst 5 (x_39.Items.map encGJson))])) rfl (encGJson_eq _) nle rfl) <| s_dol (o_callf (v := (.agg [(.int .i64 r_42.Kind), (.int .i64 r_42.N), (.str r_42.T), (.own 5 0 r_42.Keys.length), (.own 6 0 r_42.Items.length)])) (h' := [.row 1 (r_42.Keys.map AV.str), .row 5 (r_42.Items.map encGJson)]) (hrec _ _ er43) rfl (.cons (.of_eq (encGJson_eq x_39).symm) .nil) (by simp only [openV, openVs, List.length_map, encGJson_eq, List.nil_append, List.append_nil, List.cons_append]; rfl)) (.inr ⟨⟨nle, rfl⟩, ⟨⟨trivial, rfl⟩, trivial⟩⟩) trivial <| ?_
    refine s_dol (o_bslice (j := 7) (as' := [(encGJson r_42)]) rfl (fun _ => by decide) ⟨rfl, trivial⟩ (.cons (leJ (x := r_42) (.agg (.cons (.refl _) (.cons (.refl _) (.cons (.refl _) (.cons (.of_eq (congrArg (AV.lst _) (tk (enc := AV.str) r_42.Keys))) (.cons (.of_eq (congrArg (AV.lst _) (tk (enc := encGJson) r_42.Items))) .nil))))))) .nil) rfl rfl rfl) (.inr ⟨⟨nle, rfl⟩, ⟨⟨trivial, rfl⟩, trivial⟩⟩) trivial ?_
    refine s_dol (o_appendd (j := 8) (L := ((x_22 ++ [r_42]).map encGJson)) (len := (x_22 ++ [r_42]).length) rfl true rfl rfl (fun h => Bool.noConfusion h) (fun _ _ h => (ownl (show AV.own _ _ _ = AV.lst _ _ from h)).elim) (by decide) (apo (enc := encGJson) x_22 [r_42]) (by simp <;> omega) g44 rfl rfl) trivial trivial ?_
    refine s_q (.ptr 2 0 4) rfl trivial rfl <| s_dol0 (o_storebox (v := (.own 8 0 ((x_22 ++ [r_42]).length))) (y' := (.agg [(.int .i64 j_1.Kind), (.int .i64 j_1.N), (.str j_1.T), (.own 3 0 (([] ++ j_1.Keys).length)), (.own 8 0 ((x_22 ++ [r_42]).length))])) rfl rfl rfl trivial ⟨rfl, nle⟩ ⟨⟨rfl, trivial⟩, trivial⟩ rfl) trivial trivial <| w_done <| k_blk <| k_seq <| w_reg <| s_mov (.int .i64 (i_21 : Int)) rfl <| s_q (.int .i64 (w64 ((i_21 : Int) + 1))) rfl rfl rfl <| s_mov (.int .i64 (w64 ((i_21 : Int) + 1))) rfl <| w_done <| ?_; exact k_loopn ⟨((i_21 + 1), x_22 ++ [r_42]), hc1⟩ (mul hlt33) ⟨[], [0, 1, 2, 3, 8], _, _, rfl, rfl, ⟨.refl _, ⟨.refl _, ⟨.refl _, ⟨.of_eq (congrArg (AV.int _) (w64_incr hlt33 hl41)), trivial⟩⟩⟩⟩, (.refl _)⟩
  ·refine awp_seq <| w_reg <| s_q (.agg [(.int .i64 j_1.Kind), (.int .i64 j_1.N), (.str j_1.T), (.own 2 0 (([] ++ j_1.Keys).length)), (.own 3 0 x_31.length)]) rfl nle rfl <| s_do0 (o_storebox (v := (.agg [(.int .i64 j_1.Kind), (.int .i64 j_1.N), (.str j_1.T), (.own 2 0 (([] ++ j_1.Keys).length)), (.own 3 0 x_31.length)])) (y' := (.agg [(.int .i64 j_1.Kind), (.int .i64 j_1.N), (.str j_1.T), (.own 2 0 (([] ++ j_1.Keys).length)), (.own 3 0 x_31.length)])) rfl rfl rfl trivial ⟨rfl, nle⟩ ⟨⟨rfl, trivial⟩, ⟨⟨rfl, trivial⟩, ⟨⟨rfl, trivial⟩, ⟨⟨rfl, trivial⟩, ⟨⟨rfl, trivial⟩, trivial⟩⟩⟩⟩⟩ rfl) <| w_done <| k_seq <| w_ret <| ?_; obtain rfl := os hf; exact r_fresh ⟨nle, trivial⟩ rfl (by decide) (leJ (x := (⟨j_1.Kind, j_1.N, j_1.T, [] ++ j_1.Keys, x_31⟩ : GJson)) (.agg (.cons (.refl _) (.cons (.refl _) (.cons (.refl _) (.cons (.of_eq (congrArg (AV.lst _) (tk (enc := AV.str) ([] ++ j_1.Keys)))) (.cons (.of_eq (congrArg (AV.lst _) (tk (enc := encGJson) x_31))) .nil)))))))
def spec_l01Own : Nat → GJson → Option GJson
 | 0, _ => none
 | k + 1, j_1 => spec_l01Own_B (spec_l01Own k) j_1
theorem w_spec_l01Own : ∀ (k : Nat) (j_1 : GJson) (r : GJson), spec_l01Own k j_1 = some r → CallOK Try.prog 107 .fresh [(encGJson j_1)] (encGJson r)
 | 0, j_1, r, h => by rw [spec_l01Own.eq_1] at h; cases h
 | k + 1, j_1, r, h => by
  rw [spec_l01Own.eq_2] at h; exact w_spec_l01Own_B _ (w_spec_l01Own k) j_1 r h

/- spec.ReplyJson -/
def c66 : ACode :=
 (.seq (.reg (tq 5 (.box 5 (.t 2)) (tq 6 (.box 5 (.c (.agg [(.int .i64 0), (.int .i64 0), (.str []), .nil, .nil]))) (tm 7 (.c (.int .i64 0)) .done))))
 (.seq (.seq (.reg (tq 9 (.load 5 true (.t 5)) (tq 10 (.call 121 [(.t 9)]) (tq 11 (.not (.t 10)) (tm 12 (.t 11) (tg 13 12 false (.mov (.t 1)) (tg 14 12 false (.call 81 [(.t 13), (.c (.int .i64 0)), (.c (.int .i64 19))]) (tg 15 12 false (.not (.t 14)) (tq 16 (.pick (.t 12) (.c (.bool true)) (.t 15)) (tm 17 (.t 16) (tg 18 17 false (.mov (.t 0)) (tg 19 17 false (.call 81 [(.t 18), (.c (.int .i64 (-1000000000))), (.c (.int .i64 1000000000))]) (tg 20 17 false (.not (.t 19)) (tq 21 (.pick (.t 17) (.c (.bool true)) (.t 20)) .done))))))))))))))
 (.cut (.cond (.t 21) (.seq (.reg (tq 22 (.build [(.int .i64 0), (.int .i64 0), (.str []), .nil, .nil] []) (.q ⟨none, none, .store 5 (.t 6) (.t 22)⟩
 (tm 7 (.c (.int .i64 1)) .done))))
 .ret)
 .skip)))
 (.seq (.reg (tm 23 (.t 0) (tm 24 (.t 1) (tq 25 (.load 5 true (.t 5)) (tq 26 (.call 139 [(.t 23), (.t 24), (.t 25)]) (tq 8 (.box 5 (.c (.agg [(.int .i64 0), (.int .i64 0), (.str []), .nil, .nil]))) (.q ⟨none, none, .store 5 (.t 8) (.t 26)⟩
 .done)))))))
 (.seq (.seq (.reg (tq 27 (.load 5 true (.t 8)) (tq 28 (.call 121 [(.t 27)]) (tq 29 (.not (.t 28)) .done))))
 (.cond (.t 29) (.seq (.reg (tq 30 (.build [(.int .i64 0), (.int .i64 0), (.str []), .nil, .nil] []) (.q ⟨none, none, .store 5 (.t 6) (.t 30)⟩
 (tm 7 (.c (.int .i64 18)) .done))))
 .ret)
 .skip))
 (.seq (.reg (tq 31 (.load 5 true (.t 8)) (tq 32 (.call 107 [(.t 31)]) (.q ⟨none, none, .store 5 (.t 6) (.t 32)⟩
 (tm 7 (.c (.int .i64 0)) .done)))))
 .ret)))))
theorem fc66 : fcomp Try.prog Try.f66 = some (c66.erase, [.load 5 true (.t 6), .mov (.t 7)], 33) := by kernel_rfl
def spec_ReplyJson (id_1 : Int) (code_2 : Int) (result_3 : GJson) : Option (GJson × Int) :=
    (((spec_JsonOK result_3).bind fun r_14 =>
    if (!r_14) then
    some true
    else
    (spec_l01In code_2 0 19).bind fun r_17 =>
    if (!r_17) then
    some true
    else
    (spec_l01In id_1 (-1000000000) 1000000000).bind fun r_20 =>
    some (!r_20) : Option Bool)).bind fun s21_12 =>
    if s21_12 then
    some ((⟨0, 0, [], [], []⟩ : GJson), 1)
    else
    (spec_l13Reply id_1 code_2 result_3).bind fun r_23 =>
    (spec_JsonOK r_23).bind fun r_25 =>
    if (!r_25) then
    some ((⟨0, 0, [], [], []⟩ : GJson), 18)
    else
    (spec_l01Own FUEL r_23).bind fun r_28 =>
    some (r_28, 0)
theorem w_spec_ReplyJson (id_1 : Int) (code_2 : Int) (result_3 : GJson) (r : (GJson × Int)) (hf : spec_ReplyJson id_1 code_2 result_3 = some r) : CallOK Try.prog 66 .fresh [(.int .i64 id_1), (.int .i64 code_2), (encGJson result_3)] (.tup [(encGJson r.1), (.int .i64 r.2)]) := by
 refine CallOK.of_awp mixed Try.func66 fc66 nle ?_; rw [argT_eq]; rw [encGJson_eq result_3]; unfold spec_ReplyJson at hf; unfold c66; refine (show awp Try.prog true 0 _ (ofL [(0, (.int .i64 id_1)), (1, (.int .i64 code_2)), (2, (.agg [(.int .i64 result_3.Kind), (.int .i64 result_3.N), (.str result_3.T), (.lst 1 (result_3.Keys.map AV.str)), (.lst 5 (result_3.Items.map encGJson))]))]) [] _ from ?_); refine awp_seq <| w_reg <| s_do (o_box (j := 0) (c := (.agg [(.int .i64 result_3.Kind), (.int .i64 result_3.N), (.str result_3.T), (.lst 1 (result_3.Keys.map AV.str)), (.lst 5 (result_3.Items.map encGJson))])) rfl trivial rfl rfl) <| s_do (o_box (j := 1) (c := (.agg [(.int .i64 0), (.int .i64 0), (.str []), .nil, .nil])) rfl trivial rfl rfl) <| ?_
 refine s_mov (.int .i64 0) rfl <| w_done <| k_seq <| awp_seq <| awp_seq <| ?_
 obtain ⟨s21_12, hb1, hf⟩ := ob hf
 refine awp_cut ([(0, (.int .i64 id_1)), (1, (.int .i64 code_2)), (5, (.ptr 0 0 0)), (6, (.ptr 1 0 0)), (21, (.bool s21_12))], [.box 5 (.agg [(.int .i64 result_3.Kind), (.int .i64 result_3.N), (.str result_3.T), (.lst 1 (result_3.Keys.map AV.str)), (.lst 5 (result_3.Items.map encGJson))]), .box 5 (.agg [(.int .i64 0), (.int .i64 0), (.str []), .nil, .nil])]) ?_ ?_
 ·refine w_reg <| s_q (.agg [(.int .i64 result_3.Kind), (.int .i64 result_3.N), (.str result_3.T), (.lst 1 (result_3.Keys.map AV.str)), (.lst 5 (result_3.Items.map encGJson))]) rfl nle rfl <| ?_
  obtain ⟨r_14, er15, hb1⟩ := ob hb1
  refine s_do (o_call (w_spec_JsonOK _ _ er15) rfl (.cons (.of_eq (encGJson_eq result_3).symm) .nil) rfl) <| s_q (.bool (!r_14)) rfl trivial rfl <| s_mov (.bool (!r_14)) rfl <| ?_
  rcases oi hb1 with ⟨c16, hb1⟩ | ⟨c16, hb1⟩
  ·refine s_lit (s := 12) (b := true) rfl c16 <| s_off rfl rfl <| s_off rfl rfl <| s_off rfl rfl <| s_q (.bool true) rfl trivial rfl <| s_mov (.bool true) rfl <| s_off rfl rfl <| s_off rfl rfl <| s_off rfl rfl <| s_q (.bool true) rfl trivial rfl <| w_done <| ?_; obtain rfl := os hb1; exact ⟨[], [0, 1], _, _, rfl, rfl, ⟨.refl _, ⟨.refl _, ⟨.refl _, ⟨.refl _, ⟨.refl _, trivial⟩⟩⟩⟩⟩, (.refl _)⟩
  ·refine s_lit (s := 12) (b := false) rfl (bf c16) <| s_on rfl <| s_mov (.int .i64 code_2) rfl <| s_on rfl <| ?_
   obtain ⟨r_17, er18, hb1⟩ := ob hb1
   refine s_do (o_call (w_spec_l01In _ _ _ _ er18) rfl (.refl _) rfl) <| s_on rfl <| s_q (.bool (!r_17)) rfl trivial rfl <| s_q (.bool (!r_17)) rfl trivial rfl <| s_mov (.bool (!r_17)) rfl <| ?_
   rcases oi hb1 with ⟨c19, hb1⟩ | ⟨c19, hb1⟩
   ·refine s_lit (s := 17) (b := true) rfl c19 <| s_off rfl rfl <| s_off rfl rfl <| s_off rfl rfl <| s_q (.bool true) rfl trivial rfl <| w_done <| ?_; obtain rfl := os hb1; exact ⟨[], [0, 1], _, _, rfl, rfl, ⟨.refl _, ⟨.refl _, ⟨.refl _, ⟨.refl _, ⟨.refl _, trivial⟩⟩⟩⟩⟩, (.refl _)⟩
   ·refine s_lit (s := 17) (b := false) rfl (bf c19) <| s_on rfl <| s_mov (.int .i64 id_1) rfl <| s_on rfl <| ?_
    obtain ⟨r_20, er21, hb1⟩ := ob hb1
    refine s_do (o_call (w_spec_l01In _ _ _ _ er21) rfl (.refl _) rfl) <| s_on rfl <| s_q (.bool (!r_20)) rfl trivial rfl <| s_q (.bool (!r_20)) rfl trivial rfl <| w_done <| ?_; obtain rfl := os hb1; exact ⟨[], [0, 1], _, _, rfl, rfl, ⟨.refl _, ⟨.refl _, ⟨.refl _, ⟨.refl _, ⟨.refl _, trivial⟩⟩⟩⟩⟩, (.refl _)⟩
 ·rcases oi hf with ⟨c22, hf⟩ | ⟨c22, hf⟩
  ·refine w_condt rfl c22 <| awp_seq <| w_reg <| s_q (.agg [(.int .i64 0), (.int .i64 0), (.str []), .nil, .nil]) rfl trivial rfl <| s_do0 (o_storebox (v := (.agg [(.int .i64 0), (.int .i64 0), (.str []), .nil, .nil])) (y' := (.agg [(.int .i64 0), (.int .i64 0), (.str []), .nil, .nil])) rfl rfl rfl trivial ⟨rfl, nle⟩ ⟨⟨rfl, trivial⟩, ⟨⟨rfl, trivial⟩, ⟨⟨rfl, trivial⟩, ⟨⟨rfl, trivial⟩, ⟨⟨rfl, trivial⟩, trivial⟩⟩⟩⟩⟩ rfl) <| s_mov (.int .i64 1) rfl <| w_done <| k_seq <| w_ret <| ?_; obtain rfl := os hf; exact r_fresh ⟨nle, ⟨trivial, trivial⟩⟩ rfl (by decide) (.tup (.cons (leJ (x := (⟨0, 0, [], [], []⟩ : GJson)) (.agg (.cons (.refl _) (.cons (.refl _) (.cons (.refl _) (.cons (.nil _) (.cons (.nil _) .nil))))))) (.cons (.refl _) .nil)))
  ·refine w_condf rfl (bf c22) <| w_skip <| k_seq <| awp_seq <| w_reg <| ?_
   obtain ⟨r_23, er24, hf⟩ := ob hf
   refine s_mov (.int .i64 id_1) rfl <| s_mov (.int .i64 code_2) rfl <| s_q (.agg [(.int .i64 result_3.Kind), (.int .i64 result_3.N), (.str result_3.T), (.lst 1 (result_3.Keys.map AV.str)), (.lst 5 (result_3.Items.map encGJson))]) rfl nle rfl <| s_do (o_callw (v := (.agg [(.int .i64 r_23.Kind), (.int .i64 r_23.N), (.str r_23.T), (.lst 1 (r_23.Keys.map AV.str)), (.lst 5 (r_23.Items.map encGJson))])) rfl (w_spec_l13Reply _ _ _ _ er24) rfl (.cons (.refl _) (.cons (.refl _) (.cons (.of_eq (encGJson_eq result_3).symm) .nil))) (by simp only [encGJson_eq]) rfl) <| s_do (o_box (j := 2) (c := (.agg [(.int .i64 0), (.int .i64 0), (.str []), .nil, .nil])) rfl trivial rfl rfl) <| s_do0 (o_storebox (v := (.agg [(.int .i64 r_23.Kind), (.int .i64 r_23.N), (.str r_23.T), (.lst 1 (r_23.Keys.map AV.str)), (.lst 5 (r_23.Items.map encGJson))])) (y' := (.agg [(.int .i64 r_23.Kind), (.int .i64 r_23.N), (.str r_23.T), (.lst 1 (r_23.Keys.map AV.str)), (.lst 5 (r_23.Items.map encGJson))])) rfl rfl rfl trivial ⟨rfl, nle⟩ ⟨⟨rfl, trivial⟩, ⟨⟨rfl, trivial⟩, ⟨⟨rfl, trivial⟩, ⟨⟨rfl, trivial⟩, ⟨⟨rfl, trivial⟩, trivial⟩⟩⟩⟩⟩ rfl) <| ?_
   refine w_done <| k_seq <| awp_seq <| awp_seq <| w_reg <| ?_
   obtain ⟨r_25, er26, hf⟩ := ob hf
   refine s_q (.agg [(.int .i64 r_23.Kind), (.int .i64 r_23.N), (.str r_23.T), (.lst 1 (r_23.Keys.map AV.str)), (.lst 5 (r_23.Items.map encGJson))]) rfl nle rfl <| s_do (o_call (w_spec_JsonOK _ _ er26) rfl (.cons (.of_eq (encGJson_eq r_23).symm) .nil) rfl) <| s_q (.bool (!r_25)) rfl trivial rfl <| w_done <| k_seq <| ?_
   rcases oi hf with ⟨c27, hf⟩ | ⟨c27, hf⟩
   ·refine w_condt rfl c27 <| awp_seq <| w_reg <| s_q (.agg [(.int .i64 0), (.int .i64 0), (.str []), .nil, .nil]) rfl trivial rfl <| s_do0 (o_storebox (v := (.agg [(.int .i64 0), (.int .i64 0), (.str []), .nil, .nil])) (y' := (.agg [(.int .i64 0), (.int .i64 0), (.str []), .nil, .nil])) rfl rfl rfl trivial ⟨rfl, nle⟩ ⟨⟨rfl, trivial⟩, ⟨⟨rfl, trivial⟩, ⟨⟨rfl, trivial⟩, ⟨⟨rfl, trivial⟩, ⟨⟨rfl, trivial⟩, trivial⟩⟩⟩⟩⟩ rfl) <| s_mov (.int .i64 18) rfl <| w_done <| k_seq <| w_ret <| ?_; obtain rfl := os hf; exact r_fresh ⟨nle, ⟨trivial, trivial⟩⟩ rfl (by decide) (.tup (.cons (leJ (x := (⟨0, 0, [], [], []⟩ : GJson)) (.agg (.cons (.refl _) (.cons (.refl _) (.cons (.refl _) (.cons (.nil _) (.cons (.nil _) .nil))))))) (.cons (.refl _) .nil)))
   ·refine w_condf rfl (bf c27) <| w_skip <| k_seq <| awp_seq <| w_reg <| ?_
    obtain ⟨r_28, er29, hf⟩ := ob hf
    refine s_q (.agg [(.int .i64 r_23.Kind), (.int .i64 r_23.N), (.str r_23.T), (.lst 1 (r_23.Keys.map AV.str)), (.lst 5 (r_23.Items.map encGJson))]) rfl nle rfl <| s_do (o_callf (v := (.agg [(.int .i64 r_28.Kind), (.int .i64 r_28.N), (.str r_28.T), (.own 3 0 r_28.Keys.length), (.own 4 0 r_28.Items.length)])) (h' := [.row 1 (r_28.Keys.map AV.str), .row 5 (r_28.Items.map encGJson)]) (w_spec_l01Own FUEL _ _ er29) rfl (.cons (.of_eq (encGJson_eq r_23).symm) .nil) (by simp only [openV, openVs, List.length_map, encGJson_eq, List.nil_append, List.append_nil, List.cons_append]; rfl)) <| s_do0 (o_storebox (v := (.agg [(.int .i64 r_28.Kind), (.int .i64 r_28.N), (.str r_28.T), (.own 3 0 r_28.Keys.length), (.own 4 0 r_28.Items.length)])) (y' := (.agg [(.int .i64 r_28.Kind), (.int .i64 r_28.N), (.str r_28.T), (.own 3 0 r_28.Keys.length), (.own 4 0 r_28.Items.length)])) rfl rfl rfl trivial ⟨rfl, nle⟩ ⟨⟨rfl, trivial⟩, ⟨⟨rfl, trivial⟩, ⟨⟨rfl, trivial⟩, ⟨⟨rfl, trivial⟩, ⟨⟨rfl, trivial⟩, trivial⟩⟩⟩⟩⟩ rfl) <| ?_
    refine s_mov (.int .i64 0) rfl <| w_done <| k_seq <| w_ret <| ?_; obtain rfl := os hf; exact r_fresh ⟨nle, ⟨trivial, trivial⟩⟩ rfl (by decide) (.tup (.cons (leJ (x := r_28) (.agg (.cons (.refl _) (.cons (.refl _) (.cons (.refl _) (.cons (.of_eq (congrArg (AV.lst _) (tk (enc := AV.str) r_28.Keys))) (.cons (.of_eq (congrArg (AV.lst _) (tk (enc := encGJson) r_28.Items))) .nil))))))) (.cons (.refl _) .nil)))

/- impl.within -/
def c86 : ACode :=
 (.seq (.reg (tm 6 (.c (.bool false)) .done))
 (.seq (.reg (tm 7 (.t 0) (tm 8 (.t 1) (tq 9 (.bin .geq (.t 7) (.t 8)) (tm 10 (.t 9) (tg 11 10 true (.mov (.t 0)) (tg 12 10 true (.mov (.t 2)) (tg 13 10 true (.bin .leq (.t 11) (.t 12)) (tq 14 (.pick (.t 10) (.t 13) (.c (.bool false))) (tm 6 (.t 14) .done))))))))))
 .ret))
theorem fc86 : fcomp Try.prog Try.f86 = some (c86.erase, [.mov (.t 6)], 15) := by kernel_rfl
def impl_within (n_1 : Int) (low_2 : Int) (high_3 : Int) : Option Bool :=
    if (decide (n_1 ≥ low_2)) then
    some (decide (n_1 ≤ high_3))
    else
    some false
theorem w_impl_within (n_1 : Int) (low_2 : Int) (high_3 : Int) (r : Bool) (hf : impl_within n_1 low_2 high_3 = some r) : CallOK Try.prog 86 .flat [(.int .i64 n_1), (.int .i64 low_2), (.int .i64 high_3)] (.bool r) := by
 refine CallOK.of_awp mixed Try.func86 fc86 nle ?_; rw [argT_eq]; unfold impl_within at hf; unfold c86; refine (show awp Try.prog false 0 _ (ofL [(0, (.int .i64 n_1)), (1, (.int .i64 low_2)), (2, (.int .i64 high_3))]) [] _ from ?_); refine awp_seq <| w_reg <| s_mov (.bool false) rfl <| w_done <| k_seq <| awp_seq <| w_reg <| ?_
 rcases oi hf with ⟨c4, hf⟩ | ⟨c4, hf⟩
 ·refine s_mov (.int .i64 n_1) rfl <| s_mov (.int .i64 low_2) rfl <| s_q (.bool (decide (n_1 ≥ low_2))) rfl rfl rfl <| s_mov (.bool (decide (n_1 ≥ low_2))) rfl <| s_lit (s := 10) (b := true) rfl c4 <| s_on rfl <| s_mov (.int .i64 n_1) rfl <| s_on rfl <| s_mov (.int .i64 high_3) rfl <| s_on rfl <| s_q (.bool (decide (n_1 ≤ high_3))) rfl rfl rfl <| s_q (.bool (decide (n_1 ≤ high_3))) rfl trivial rfl <| s_mov (.bool (decide (n_1 ≤ high_3))) rfl <| w_done <| k_seq <| w_ret <| ?_; obtain rfl := os hf; exact r_flat ⟨trivial, trivial⟩ rfl (.refl _)
 ·refine s_mov (.int .i64 n_1) rfl <| s_mov (.int .i64 low_2) rfl <| s_q (.bool (decide (n_1 ≥ low_2))) rfl rfl rfl <| s_mov (.bool (decide (n_1 ≥ low_2))) rfl <| s_lit (s := 10) (b := false) rfl (bf c4) <| s_off rfl rfl <| s_off rfl rfl <| s_off rfl rfl <| s_q (.bool false) rfl trivial rfl <| s_mov (.bool false) rfl <| w_done <| k_seq <| w_ret <| ?_; obtain rfl := os hf; exact r_flat ⟨trivial, trivial⟩ rfl (.refl _)

/- impl.isNumber -/
def c136 : ACode :=
 (.seq (.reg (tm 2 (.c (.bool false)) .done))
 (.seq (.reg (tm 3 (.t 0) (tq 4 (.call 86 [(.t 3), (.c (.int .i64 (-1000000000))), (.c (.int .i64 1000000000))]) (tm 2 (.t 4) .done))))
 .ret))
theorem fc136 : fcomp Try.prog Try.f136 = some (c136.erase, [.mov (.t 2)], 5) := by kernel_rfl
def impl_isNumber (n_1 : Int) : Option Bool :=
    (impl_within n_1 (-1000000000) 1000000000).bind fun r_2 =>
    some r_2
theorem w_impl_isNumber (n_1 : Int) (r : Bool) (hf : impl_isNumber n_1 = some r) : CallOK Try.prog 136 .flat [(.int .i64 n_1)] (.bool r) := by
  refine CallOK.of_awp mixed Try.func136 fc136 nle ?_
  rw [argT_eq]
  unfold impl_isNumber at hf
  unfold c136
  refine (show awp Try.prog false 0 _ (ofL [(0, (.int .i64 n_1))]) [] _ from ?_)
  refine awp_seq ?_
  refine w_reg ?_
  refine s_do (o_mov (.bool false) rfl) ?_
  refine w_done ?_
  refine k_seq ?_
  refine awp_seq ?_
  refine w_reg ?_
  obtain ⟨r_2, er3, hf⟩ := ob hf
  refine s_do (o_mov (.int .i64 n_1) rfl) ?_
  refine s_do (o_call (w_impl_within _ _ _ _ er3) rfl (.refl _) rfl) ?_
  refine s_do (o_mov (.bool r_2) rfl) ?_
  refine w_done ?_
  refine k_seq ?_
  refine w_ret ?_
  obtain rfl := os hf
  exact r_flat ⟨trivial, trivial⟩ rfl (.refl _)

/- impl.isPlain -/
def c174 : ACode :=
 (.seq (.reg (tm 2 (.c (.bool false)) .done))
 (.seq (.seq (.reg (tm 4 (.t 0) (tq 5 (.lenS (.t 4)) (tm 6 (.c (.int .i64 0)) .done))))
 (.block 0 (.loop (.seq (.reg (tq 7 (.bin .lss (.t 6) (.t 5)) .done))
 (.seq (.cond (.t 7) .skip
 (.exit 0))
 (.seq (.block 1 (.seq (.reg (tm 8 (.t 6) (tm 3 (.t 8) .done)))
 (.seq (.reg (tm 9 (.t 0) (tm 10 (.t 3) (tq 11 (.idxs (.t 9) (.t 10)) (tq 12 (.bin .lss (.t 11) (.c (.int .u8 32))) (tm 13 (.t 12) (tg 14 13 false (.mov (.t 0)) (tg 15 13 false (.mov (.t 3)) (tg 16 13 false (.idxs (.t 14) (.t 15)) (tg 17 13 false (.bin .gtr (.t 16) (.c (.int .u8 126))) (tq 18 (.pick (.t 13) (.c (.bool true)) (.t 17)) .done)))))))))))
 (.cut (.cond (.t 18) (.seq (.reg (tm 2 (.c (.bool false)) .done))
 .ret)
 .skip)))))
 (.reg (tq 19 (.bin .add (.t 6) (.c (.int .i64 1))) (tm 6 (.t 19) .done)))))))))
 (.cut (.seq (.reg (tm 20 (.t 0) (tq 21 (.lenS (.t 20)) (tq 22 (.bin .leq (.t 21) (.c (.int .i64 200))) (tm 2 (.t 22) .done)))))
 .ret))))
theorem fc174 : fcomp Try.prog Try.f174 = some (c174.erase, [.mov (.t 2)], 23) := by kernel_rfl
def impl_isPlain_L1  : List UInt8 → Option (Fl Bool Unit)
  | [] =>
    some (.go ())
  | x_54 :: xs =>
    ((if (decide ((x_54.toNat : Int) < 32)) then
    some true
    else
    some (decide ((x_54.toNat : Int) > 126)) : Option Bool)).bind fun s18_56 =>
    if s18_56 then
    some (.ret false)
    else
    impl_isPlain_L1 xs 

def impl_isPlain (t_1 : Str) : Option Bool :=
    (impl_isPlain_L1 t_1 ).bind fun q => (match q with
    | .ret r => some r
    | .go _ =>
    some (decide ((t_1.length : Int) ≤ 200)))
theorem w_impl_isPlain (t_1 : Str) (r : Bool) (hf : impl_isPlain t_1 = some r) : CallOK Try.prog 174 .flat [(.str t_1)] (.bool r) := by
 refine CallOK.of_awp mixed Try.func174 fc174 nle ?_; rw [argT_eq]; unfold impl_isPlain at hf; unfold c174; refine (show awp Try.prog false 0 _ (ofL [(0, (.str t_1))]) [] _ from ?_); refine awp_seq <| w_reg <| s_mov (.bool false) rfl <| w_done <| k_seq <| awp_seq <| awp_seq <| w_reg <| s_mov (.str t_1) rfl <| s_dof (o_lenS rfl) fun hl2 => s_mov (.int .i64 0) rfl <| w_done <| k_seq <| ?_
 obtain ⟨p47, hb1, hf⟩ := ob hf
 refine awp_cutx (X := {q : Unit // p47 = .go q}) (fun q => ([(0, (.str t_1))], [])) ?_ ?_
 ·refine awp_loop (X := {q : Nat // impl_isPlain_L1 (t_1.drop q)  = some p47}) (fun q => ([(0, (.str t_1)), (5, (.int .i64 (t_1.length : Int))), (6, (.int .i64 (q.1 : Int)))], [])) (fun q => t_1.length - q.1) ⟨0, hb1⟩ ⟨[], [], _, _, rfl, rfl, ⟨.refl _, ⟨.refl _, ⟨.refl _, trivial⟩⟩⟩, (.refl _)⟩ ?_
  rintro ⟨s6_32, hc1⟩
  have hc1 : impl_isPlain_L1 (t_1.drop s6_32)  = some p47 := hc1
  refine (show awp Try.prog false 0 _ (ofL [(0, (.str t_1)), (5, (.int .i64 (t_1.length : Int))), (6, (.int .i64 (s6_32 : Int)))]) [] _ from ?_)
  rcases dropc t_1 s6_32 with ⟨hie50, hd53⟩ | ⟨hlt48, x_54, hx49, hd53⟩
  ·rw [hd53, impl_isPlain_L1.eq_1] at hc1
   have hq52 := dlf hie50
   refine awp_seq <| w_reg <| s_q (.bool (decide ((s6_32 : Int) < (t_1.length : Int)))) rfl rfl rfl <| w_done <| k_seq <| awp_seq <| w_condf rfl hq52 <| w_exit <| k_seqx <| k_loopx <| k_blkx <| ?_; obtain rfl := os hc1; exact k_cutn ⟨_, rfl⟩ ⟨[], [], _, _, rfl, rfl, ⟨.refl _, trivial⟩, (.refl _)⟩
  ·rw [hd53, impl_isPlain_L1.eq_2] at hc1
   have hq52 := dlt hlt48
   refine awp_seq <| w_reg <| s_q (.bool (decide ((s6_32 : Int) < (t_1.length : Int)))) rfl rfl rfl <| w_done <| k_seq <| awp_seq <| w_condt rfl hq52 <| w_skip <| k_seq <| awp_seq <| w_blk <| awp_seq <| w_reg <| s_mov (.int .i64 (s6_32 : Int)) rfl <| s_mov (.int .i64 (s6_32 : Int)) rfl <| w_done <| k_seq <| awp_seq <| ?_
   obtain ⟨s18_56, hb2, hc1⟩ := ob hc1
   refine awp_cut ([(0, (.str t_1)), (5, (.int .i64 (t_1.length : Int))), (6, (.int .i64 (s6_32 : Int))), (18, (.bool s18_56))], []) ?_ ?_
   ·refine w_reg ?_
    rcases oi hb2 with ⟨c58, hb2⟩ | ⟨c58, hb2⟩
    ·refine s_mov (.str t_1) rfl <| s_mov (.int .i64 (s6_32 : Int)) rfl <| s_do (o_idxsn rfl rfl hx49) <| s_q (.bool (decide ((x_54.toNat : Int) < 32))) rfl rfl rfl <| s_mov (.bool (decide ((x_54.toNat : Int) < 32))) rfl <| s_lit (s := 13) (b := true) rfl c58 <| s_off rfl rfl <| s_off rfl rfl <| s_off rfl rfl <| s_off rfl rfl <| s_q (.bool true) rfl trivial rfl <| w_done <| ?_; obtain rfl := os hb2; exact ⟨[], [], _, _, rfl, rfl, ⟨.refl _, ⟨.refl _, ⟨.refl _, ⟨.refl _, trivial⟩⟩⟩⟩, (.refl _)⟩
    ·refine s_mov (.str t_1) rfl <| s_mov (.int .i64 (s6_32 : Int)) rfl <| s_do (o_idxsn rfl rfl hx49) <| s_q (.bool (decide ((x_54.toNat : Int) < 32))) rfl rfl rfl <| s_mov (.bool (decide ((x_54.toNat : Int) < 32))) rfl <| s_lit (s := 13) (b := false) rfl (bf c58) <| s_on rfl <| s_mov (.str t_1) rfl <| s_on rfl <| s_mov (.int .i64 (s6_32 : Int)) rfl <| s_on rfl <| s_do (o_idxsn rfl rfl hx49) <| s_on rfl <| s_q (.bool (decide ((x_54.toNat : Int) > 126))) rfl rfl rfl <| s_q (.bool (decide ((x_54.toNat : Int) > 126))) rfl trivial rfl <| w_done <| ?_; obtain rfl := os hb2; exact ⟨[], [], _, _, rfl, rfl, ⟨.refl _, ⟨.refl _, ⟨.refl _, ⟨.refl _, trivial⟩⟩⟩⟩, (.refl _)⟩
   ·rcases oi hc1 with ⟨c59, hc1⟩ | ⟨c59, hc1⟩
    ·refine w_condt rfl c59 <| awp_seq <| w_reg <| s_mov (.bool false) rfl <| w_done <| k_seq <| w_ret <| ?_; obtain rfl := os hc1; obtain rfl := os hf; exact r_flat ⟨trivial, trivial⟩ rfl (.refl _)
    ·refine w_condf rfl (bf c59) <| w_skip <| k_blk <| k_seq <| w_reg <| s_q (.int .i64 (w64 ((s6_32 : Int) + 1))) rfl rfl rfl <| s_mov (.int .i64 (w64 ((s6_32 : Int) + 1))) rfl <| w_done <| ?_; exact k_loopn ⟨(s6_32 + 1), hc1⟩ (mul hlt48) ⟨[], [], _, _, rfl, rfl, ⟨.refl _, ⟨.refl _, ⟨.of_eq (congrArg (AV.int _) (w64_incr hlt48 hl2)), trivial⟩⟩⟩, (.refl _)⟩
 ·rintro ⟨_, rfl⟩
  refine awp_seq <| w_reg <| s_mov (.str t_1) rfl <| s_dof (o_lenS rfl) fun hl60 => s_q (.bool (decide ((t_1.length : Int) ≤ 200))) rfl rfl rfl <| s_mov (.bool (decide ((t_1.length : Int) ≤ 200))) rfl <| w_done <| k_seq <| w_ret <| ?_; obtain rfl := os hf; exact r_flat ⟨trivial, trivial⟩ rfl (.refl _)

/- impl.areKeys -/
def c226 : ACode :=
 (.seq (.reg (tm 2 (.c (.bool false)) .done))
 (.seq (.seq (.reg (tm 5 (.t 0) (tq 6 (.len (.t 5)) (tm 7 (.c (.int .i64 0)) .done))))
 (.block 0 (.loop (.seq (.reg (tq 8 (.bin .lss (.t 7) (.t 6)) .done))
 (.seq (.cond (.t 8) .skip
 (.exit 0))
 (.seq (.block 1 (.seq (.reg (tm 9 (.t 7) (tq 10 (.iaddr 1 (.t 5) (.t 7)) (tq 11 (.load 1 false (.t 10)) (tm 3 (.t 9) (tm 4 (.t 11) .done))))))
 (.seq (.reg (tm 12 (.t 4) (tq 13 (.call 174 [(.t 12)]) (tq 14 (.not (.t 13)) (tm 15 (.t 14) (tg 16 15 false (.mov (.t 3)) (tg 17 15 false (.bin .gtr (.t 16) (.c (.int .i64 0))) (tg 18 15 false (.mov (.t 17)) (tg 19 18 true (.mov (.t 0)) (tg 20 18 true (.mov (.t 3)) (tg 21 18 true (.bin .sub (.t 20) (.c (.int .i64 1))) (tg 22 18 true (.iaddr 1 (.t 19) (.t 21)) (tg 23 18 true (.load 1 false (.t 22)) (tg 24 18 true (.mov (.t 4)) (tg 25 18 true (.bin .geq (.t 23) (.t 24)) (tg 26 15 false (.pick (.t 18) (.t 25) (.c (.bool false))) (tq 27 (.pick (.t 15) (.c (.bool true)) (.t 26)) .done)))))))))))))))))
 (.cut (.cond (.t 27) (.seq (.reg (tm 2 (.c (.bool false)) .done))
 .ret)
 .skip)))))
 (.reg (tq 28 (.bin .add (.t 7) (.c (.int .i64 1))) (tm 7 (.t 28) .done)))))))))
 (.cut (.seq (.reg (tm 2 (.c (.bool true)) .done))
 .ret))))
theorem fc226 : fcomp Try.prog Try.f226 = some (c226.erase, [.mov (.t 2)], 29) := by kernel_rfl
def impl_areKeys_L1 (keys_1 : (List Str)) : List Str → Nat → Option (Fl Bool Unit)
  | [], s7_40 =>
    some (.go ())
  | x_66 :: xs, s7_40 =>
    (((impl_isPlain x_66).bind fun r_75 =>
    if (!r_75) then
    some true
    else
    if (decide ((s7_40 : Int) > 0)) then
    (idx keys_1 (w64 ((s7_40 : Int) - 1))).bind fun x_79 =>
    some (!Op.bytesLess x_79 x_66)
    else
    some false : Option Bool)).bind fun s27_73 =>
    if s27_73 then
    some (.ret false)
    else
    impl_areKeys_L1 keys_1 xs (s7_40 + 1)

def impl_areKeys (keys_1 : (List Str)) : Option Bool :=
    (impl_areKeys_L1 keys_1 keys_1 0).bind fun q => (match q with
    | .ret r => some r
    | .go _ =>
    some true)
theorem w_impl_areKeys (keys_1 : (List Str)) (r : Bool) (hf : impl_areKeys keys_1 = some r) : CallOK Try.prog 226 .flat [(.lst 1 (keys_1.map AV.str))] (.bool r) := by
 refine CallOK.of_awp mixed Try.func226 fc226 nle ?_; rw [argT_eq]; unfold impl_areKeys at hf; unfold c226; refine (show awp Try.prog false 0 _ (ofL [(0, (.lst 1 (keys_1.map AV.str)))]) [] _ from ?_); refine awp_seq <| w_reg <| s_mov (.bool false) rfl <| w_done <| k_seq <| awp_seq <| awp_seq <| w_reg <| s_mov (.lst 1 (keys_1.map AV.str)) rfl <| s_dof (o_len (enc := AV.str) rfl) fun hl2 => s_mov (.int .i64 0) rfl <| w_done <| k_seq <| ?_
 obtain ⟨p59, hb1, hf⟩ := ob hf
 refine awp_cutx (X := {q : Unit // p59 = .go q}) (fun q => ([], [])) ?_ ?_
 ·refine awp_loop (X := {q : Nat // impl_areKeys_L1 keys_1 (keys_1.drop q) q = some p59}) (fun q => ([(0, (.lst 1 (keys_1.map AV.str))), (5, (.lst 1 (keys_1.map AV.str))), (6, (.int .i64 (keys_1.length : Int))), (7, (.int .i64 (q.1 : Int)))], [])) (fun q => keys_1.length - q.1) ⟨0, hb1⟩ ⟨[], [], _, _, rfl, rfl, ⟨.refl _, ⟨.refl _, ⟨.refl _, ⟨.refl _, trivial⟩⟩⟩⟩, (.refl _)⟩ ?_
  rintro ⟨s7_40, hc1⟩
  have hc1 : impl_areKeys_L1 keys_1 (keys_1.drop s7_40) s7_40 = some p59 := hc1
  refine (show awp Try.prog false 0 _ (ofL [(0, (.lst 1 (keys_1.map AV.str))), (5, (.lst 1 (keys_1.map AV.str))), (6, (.int .i64 (keys_1.length : Int))), (7, (.int .i64 (s7_40 : Int)))]) [] _ from ?_)
  rcases dropc keys_1 s7_40 with ⟨hie62, hd65⟩ | ⟨hlt60, x_66, hx61, hd65⟩
  ·rw [hd65, impl_areKeys_L1.eq_1] at hc1
   have hq64 := dlf hie62
   refine awp_seq <| w_reg <| s_q (.bool (decide ((s7_40 : Int) < (keys_1.length : Int)))) rfl rfl rfl <| w_done <| k_seq <| awp_seq <| w_condf rfl hq64 <| w_exit <| k_seqx <| k_loopx <| k_blkx <| ?_; obtain rfl := os hc1; exact k_cutn ⟨_, rfl⟩ ⟨[], [], _, _, rfl, rfl, trivial, (.refl _)⟩
  ·rw [hd65, impl_areKeys_L1.eq_2] at hc1
   have hq64 := dlt hlt60
   refine awp_seq <| w_reg <| s_q (.bool (decide ((s7_40 : Int) < (keys_1.length : Int)))) rfl rfl rfl <| w_done <| k_seq <| awp_seq <| w_condt rfl hq64 <| w_skip <| k_seq <| awp_seq <| w_blk <| awp_seq <| w_reg <| s_mov (.int .i64 (s7_40 : Int)) rfl <| s_do (o_iaddrn (enc := AV.str) rfl rfl hx61) <| s_q (.str x_66) rfl ⟨rfl, rfl⟩ rfl <| s_mov (.int .i64 (s7_40 : Int)) rfl <| s_mov (.str x_66) rfl <| w_done <| k_seq <| awp_seq <| ?_
   obtain ⟨s27_73, hb2, hc1⟩ := ob hc1
   refine awp_cut ([(0, (.lst 1 (keys_1.map AV.str))), (5, (.lst 1 (keys_1.map AV.str))), (6, (.int .i64 (keys_1.length : Int))), (7, (.int .i64 (s7_40 : Int))), (27, (.bool s27_73))], []) ?_ ?_
   ·refine w_reg <| s_mov (.str x_66) rfl <| ?_
    obtain ⟨r_75, er76, hb2⟩ := ob hb2
    refine s_do (o_call (w_impl_isPlain _ _ er76) rfl (.refl _) rfl) <| s_q (.bool (!r_75)) rfl trivial rfl <| s_mov (.bool (!r_75)) rfl <| ?_
    rcases oi hb2 with ⟨c77, hb2⟩ | ⟨c77, hb2⟩
    ·refine s_lit (s := 15) (b := true) rfl c77 <| s_off rfl rfl <| s_off rfl rfl <| s_off rfl rfl <| s_offs rfl <| s_offs rfl <| s_offs rfl <| s_offs rfl <| s_offs rfl <| s_offs rfl <| s_offs rfl <| s_off rfl rfl <| s_q (.bool true) rfl trivial rfl <| w_done <| ?_; obtain rfl := os hb2; exact ⟨[], [], _, _, rfl, rfl, ⟨.refl _, ⟨.refl _, ⟨.refl _, ⟨.refl _, ⟨.refl _, trivial⟩⟩⟩⟩⟩, (.refl _)⟩
    ·refine s_lit (s := 15) (b := false) rfl (bf c77) <| s_on rfl <| s_mov (.int .i64 (s7_40 : Int)) rfl <| s_on rfl <| s_q (.bool (decide ((s7_40 : Int) > 0))) rfl rfl rfl <| s_on rfl <| s_mov (.bool (decide ((s7_40 : Int) > 0))) rfl <| ?_
     rcases oi hb2 with ⟨c78, hb2⟩ | ⟨c78, hb2⟩
     ·refine s_lit (s := 18) (b := true) rfl c78 <| s_on rfl <| s_mov (.lst 1 (keys_1.map AV.str)) rfl <| s_on rfl <| s_mov (.int .i64 (s7_40 : Int)) rfl <| s_on rfl <| s_q (.int .i64 (w64 ((s7_40 : Int) - 1))) rfl rfl rfl <| s_on rfl <| ?_
      obtain ⟨x_79, ex80, hb2⟩ := ob hb2
      refine s_do (o_iaddr (enc := AV.str) rfl rfl (idx0 ex80) (idx1 ex80)) <| s_on rfl <| s_q (.str x_79) rfl ⟨rfl, rfl⟩ rfl <| s_on rfl <| s_mov (.str x_66) rfl <| s_on rfl <| s_q (.bool (!Op.bytesLess x_79 x_66)) rfl trivial rfl <| s_on rfl <| s_q (.bool (!Op.bytesLess x_79 x_66)) rfl trivial rfl <| s_q (.bool (!Op.bytesLess x_79 x_66)) rfl trivial rfl <| w_done <| ?_; obtain rfl := os hb2; exact ⟨[], [], _, _, rfl, rfl, ⟨.refl _, ⟨.refl _, ⟨.refl _, ⟨.refl _, ⟨.refl _, trivial⟩⟩⟩⟩⟩, (.refl _)⟩
     ·refine s_lit (s := 18) (b := false) rfl (bf c78) <| s_off rfl rfl <| s_off rfl rfl <| s_off rfl rfl <| s_off rfl rfl <| s_off rfl rfl <| s_off rfl rfl <| s_off rfl rfl <| s_on rfl <| s_q (.bool false) rfl trivial rfl <| s_q (.bool false) rfl trivial rfl <| w_done <| ?_; obtain rfl := os hb2; exact ⟨[], [], _, _, rfl, rfl, ⟨.refl _, ⟨.refl _, ⟨.refl _, ⟨.refl _, ⟨.refl _, trivial⟩⟩⟩⟩⟩, (.refl _)⟩
   ·rcases oi hc1 with ⟨c81, hc1⟩ | ⟨c81, hc1⟩
    ·refine w_condt rfl c81 <| awp_seq <| w_reg <| s_mov (.bool false) rfl <| w_done <| k_seq <| w_ret <| ?_; obtain rfl := os hc1; obtain rfl := os hf; exact r_flat ⟨trivial, trivial⟩ rfl (.refl _)
    ·refine w_condf rfl (bf c81) <| w_skip <| k_blk <| k_seq <| w_reg <| s_q (.int .i64 (w64 ((s7_40 : Int) + 1))) rfl rfl rfl <| s_mov (.int .i64 (w64 ((s7_40 : Int) + 1))) rfl <| w_done <| ?_; exact k_loopn ⟨(s7_40 + 1), hc1⟩ (mul hlt60) ⟨[], [], _, _, rfl, rfl, ⟨.refl _, ⟨.refl _, ⟨.refl _, ⟨.of_eq (congrArg (AV.int _) (w64_incr hlt60 hl2)), trivial⟩⟩⟩⟩, (.refl _)⟩
 ·rintro ⟨_, rfl⟩
  refine awp_seq <| w_reg <| s_mov (.bool true) rfl <| w_done <| k_seq <| w_ret <| ?_; obtain rfl := os hf; exact r_flat ⟨trivial, trivial⟩ rfl (.refl _)

/- (impl.Json).partOK -/
def c212 : ACode :=
 (.seq (.reg (tq 1 (.box 5 (.t 0)) (tm 2 (.c (.bool false)) .done)))
 (.seq (.seq (.reg (tq 3 (.faddr 0 (.t 1)) (tq 4 (.load 1 false (.t 3)) .done)))
 (.block 0 (.seq (.reg (tq 6 (.bin .eql (.t 4) (.c (.int .i64 0))) (tm 5 (.t 6) .done)))
 (.cond (.t 5) (.seq (.reg (tq 7 (.faddr 1 (.t 1)) (tq 8 (.load 1 false (.t 7)) (tq 9 (.bin .eql (.t 8) (.c (.int .i64 0))) (tm 10 (.t 9) (tg 11 10 true (.faddr 2 (.t 1)) (tg 12 10 true (.load 1 false (.t 11)) (tg 13 10 true (.bin .eql (.t 12) (.c (.str []))) (tq 14 (.pick (.t 10) (.t 13) (.c (.bool false))) (tm 15 (.t 14) (tg 16 15 true (.faddr 3 (.t 1)) (tg 17 15 true (.load 1 false (.t 16)) (tg 18 15 true (.len (.t 17)) (tg 19 15 true (.bin .eql (.t 18) (.c (.int .i64 0))) (tq 20 (.pick (.t 15) (.t 19) (.c (.bool false))) (tm 21 (.t 20) (tg 22 21 true (.faddr 4 (.t 1)) (tg 23 21 true (.load 1 false (.t 22)) (tg 24 21 true (.len (.t 23)) (tg 25 21 true (.bin .eql (.t 24) (.c (.int .i64 0))) (tq 26 (.pick (.t 21) (.t 25) (.c (.bool false))) (tm 2 (.t 26) .done))))))))))))))))))))))
 .ret)
 (.seq (.reg (tq 28 (.bin .eql (.t 4) (.c (.int .i64 1))) (tm 27 (.t 28) .done)))
 (.cond (.t 27) (.seq (.reg (tq 29 (.faddr 1 (.t 1)) (tq 30 (.load 1 false (.t 29)) (tq 31 (.call 86 [(.t 30), (.c (.int .i64 0)), (.c (.int .i64 1))]) (tm 32 (.t 31) (tg 33 32 true (.faddr 2 (.t 1)) (tg 34 32 true (.load 1 false (.t 33)) (tg 35 32 true (.bin .eql (.t 34) (.c (.str []))) (tq 36 (.pick (.t 32) (.t 35) (.c (.bool false))) (tm 37 (.t 36) (tg 38 37 true (.faddr 3 (.t 1)) (tg 39 37 true (.load 1 false (.t 38)) (tg 40 37 true (.len (.t 39)) (tg 41 37 true (.bin .eql (.t 40) (.c (.int .i64 0))) (tq 42 (.pick (.t 37) (.t 41) (.c (.bool false))) (tm 43 (.t 42) (tg 44 43 true (.faddr 4 (.t 1)) (tg 45 43 true (.load 1 false (.t 44)) (tg 46 43 true (.len (.t 45)) (tg 47 43 true (.bin .eql (.t 46) (.c (.int .i64 0))) (tq 48 (.pick (.t 43) (.t 47) (.c (.bool false))) (tm 2 (.t 48) .done))))))))))))))))))))))
 .ret)
 (.seq (.reg (tq 50 (.bin .eql (.t 4) (.c (.int .i64 2))) (tm 49 (.t 50) .done)))
 (.cond (.t 49) (.seq (.reg (tq 51 (.faddr 1 (.t 1)) (tq 52 (.load 1 false (.t 51)) (tq 53 (.call 136 [(.t 52)]) (tm 54 (.t 53) (tg 55 54 true (.faddr 2 (.t 1)) (tg 56 54 true (.load 1 false (.t 55)) (tg 57 54 true (.bin .eql (.t 56) (.c (.str []))) (tq 58 (.pick (.t 54) (.t 57) (.c (.bool false))) (tm 59 (.t 58) (tg 60 59 true (.faddr 3 (.t 1)) (tg 61 59 true (.load 1 false (.t 60)) (tg 62 59 true (.len (.t 61)) (tg 63 59 true (.bin .eql (.t 62) (.c (.int .i64 0))) (tq 64 (.pick (.t 59) (.t 63) (.c (.bool false))) (tm 65 (.t 64) (tg 66 65 true (.faddr 4 (.t 1)) (tg 67 65 true (.load 1 false (.t 66)) (tg 68 65 true (.len (.t 67)) (tg 69 65 true (.bin .eql (.t 68) (.c (.int .i64 0))) (tq 70 (.pick (.t 65) (.t 69) (.c (.bool false))) (tm 2 (.t 70) .done))))))))))))))))))))))
 .ret)
 (.seq (.reg (tq 72 (.bin .eql (.t 4) (.c (.int .i64 3))) (tm 71 (.t 72) .done)))
 (.cond (.t 71) (.seq (.reg (tq 73 (.faddr 1 (.t 1)) (tq 74 (.load 1 false (.t 73)) (tq 75 (.bin .eql (.t 74) (.c (.int .i64 0))) (tm 76 (.t 75) (tg 77 76 true (.faddr 2 (.t 1)) (tg 78 76 true (.load 1 false (.t 77)) (tg 79 76 true (.call 174 [(.t 78)]) (tq 80 (.pick (.t 76) (.t 79) (.c (.bool false))) (tm 81 (.t 80) (tg 82 81 true (.faddr 3 (.t 1)) (tg 83 81 true (.load 1 false (.t 82)) (tg 84 81 true (.len (.t 83)) (tg 85 81 true (.bin .eql (.t 84) (.c (.int .i64 0))) (tq 86 (.pick (.t 81) (.t 85) (.c (.bool false))) (tm 87 (.t 86) (tg 88 87 true (.faddr 4 (.t 1)) (tg 89 87 true (.load 1 false (.t 88)) (tg 90 87 true (.len (.t 89)) (tg 91 87 true (.bin .eql (.t 90) (.c (.int .i64 0))) (tq 92 (.pick (.t 87) (.t 91) (.c (.bool false))) (tm 2 (.t 92) .done))))))))))))))))))))))
 .ret)
 (.seq (.reg (tq 94 (.bin .eql (.t 4) (.c (.int .i64 4))) (tm 93 (.t 94) .done)))
 (.cond (.t 93) (.seq (.reg (tq 95 (.faddr 1 (.t 1)) (tq 96 (.load 1 false (.t 95)) (tq 97 (.bin .eql (.t 96) (.c (.int .i64 0))) (tm 98 (.t 97) (tg 99 98 true (.faddr 2 (.t 1)) (tg 100 98 true (.load 1 false (.t 99)) (tg 101 98 true (.bin .eql (.t 100) (.c (.str []))) (tq 102 (.pick (.t 98) (.t 101) (.c (.bool false))) (tm 103 (.t 102) (tg 104 103 true (.faddr 3 (.t 1)) (tg 105 103 true (.load 1 false (.t 104)) (tg 106 103 true (.len (.t 105)) (tg 107 103 true (.bin .eql (.t 106) (.c (.int .i64 0))) (tq 108 (.pick (.t 103) (.t 107) (.c (.bool false))) (tm 2 (.t 108) .done))))))))))))))))
 .ret)
 (.seq (.reg (tq 110 (.bin .eql (.t 4) (.c (.int .i64 5))) (tm 109 (.t 110) .done)))
 (.cond (.t 109) (.seq (.reg (tq 111 (.faddr 1 (.t 1)) (tq 112 (.load 1 false (.t 111)) (tq 113 (.bin .eql (.t 112) (.c (.int .i64 0))) (tm 114 (.t 113) (tg 115 114 true (.faddr 2 (.t 1)) (tg 116 114 true (.load 1 false (.t 115)) (tg 117 114 true (.bin .eql (.t 116) (.c (.str []))) (tq 118 (.pick (.t 114) (.t 117) (.c (.bool false))) (tm 119 (.t 118) (tg 120 119 true (.faddr 3 (.t 1)) (tg 121 119 true (.load 1 false (.t 120)) (tg 122 119 true (.len (.t 121)) (tg 123 119 true (.faddr 4 (.t 1)) (tg 124 119 true (.load 1 false (.t 123)) (tg 125 119 true (.len (.t 124)) (tg 126 119 true (.bin .eql (.t 122) (.t 125)) (tq 127 (.pick (.t 119) (.t 126) (.c (.bool false))) (tm 128 (.t 127) (tg 129 128 true (.faddr 3 (.t 1)) (tg 130 128 true (.load 1 false (.t 129)) (tg 131 128 true (.call 226 [(.t 130)]) (tq 132 (.pick (.t 128) (.t 131) (.c (.bool false))) (tm 2 (.t 132) .done))))))))))))))))))))))))
 .ret)
 .skip))))))))))))))
 (.seq (.reg (tm 2 (.c (.bool false)) .done))
 .ret)))
theorem fc212 : fcomp Try.prog Try.f212 = some (c212.erase, [.mov (.t 2)], 133) := by kernel_rfl
def impl_Json_partOK (j_1 : GJson) : Option Bool :=
    if (j_1.Kind == 0) then
    some (bif (bif (bif (j_1.N == 0) then (j_1.T == []) else false) then ((j_1.Keys.length : Int) == 0) else false) then ((j_1.Items.length : Int) == 0) else false)
    else
    if (j_1.Kind == 1) then
    (impl_within j_1.N 0 1).bind fun r_6 =>
    some (bif (bif (bif r_6 then (j_1.T == []) else false) then ((j_1.Keys.length : Int) == 0) else false) then ((j_1.Items.length : Int) == 0) else false)
    else
    if (j_1.Kind == 2) then
    (impl_isNumber j_1.N).bind fun r_11 =>
    some (bif (bif (bif r_11 then (j_1.T == []) else false) then ((j_1.Keys.length : Int) == 0) else false) then ((j_1.Items.length : Int) == 0) else false)
    else
    if (j_1.Kind == 3) then
    if (j_1.N == 0) then
    (impl_isPlain j_1.T).bind fun r_17 =>
    some (bif (bif r_17 then ((j_1.Keys.length : Int) == 0) else false) then ((j_1.Items.length : Int) == 0) else false)
    else
    some false
    else
    if (j_1.Kind == 4) then
    some (bif (bif (j_1.N == 0) then (j_1.T == []) else false) then ((j_1.Keys.length : Int) == 0) else false)
    else
    if (j_1.Kind == 5) then
    if (bif (bif (j_1.N == 0) then (j_1.T == []) else false) then ((j_1.Keys.length : Int) == (j_1.Items.length : Int)) else false) then
    (impl_areKeys j_1.Keys).bind fun r_27 =>
    some r_27
    else
    some false
    else
    some false
theorem w_impl_Json_partOK (j_1 : GJson) (r : Bool) (hf : impl_Json_partOK j_1 = some r) : CallOK Try.prog 212 .flat [(encGJson j_1)] (.bool r) := by
 refine CallOK.of_awp mixed Try.func212 fc212 nle ?_; rw [argT_eq]; rw [encGJson_eq j_1]; unfold impl_Json_partOK at hf; unfold c212; refine (show awp Try.prog false 0 _ (ofL [(0, (.agg [(.int .i64 j_1.Kind), (.int .i64 j_1.N), (.str j_1.T), (.lst 1 (j_1.Keys.map AV.str)), (.lst 5 (j_1.Items.map encGJson))]))]) [] _ from ?_); refine awp_seq <| w_reg <| s_do (o_box (j := 0) (c := (.agg [(.int .i64 j_1.Kind), (.int .i64 j_1.N), (.str j_1.T), (.lst 1 (j_1.Keys.map AV.str)), (.lst 5 (j_1.Items.map encGJson))])) rfl trivial rfl rfl) <| s_mov (.bool false) rfl <| w_done <| k_seq <| awp_seq <| awp_seq <| w_reg <| s_q (.ptr 0 0 0) rfl trivial rfl <| s_q (.int .i64 j_1.Kind) rfl nle rfl <| w_done <| k_seq <| w_blk <| awp_seq <| w_reg <| ?_
 refine s_q (.bool (j_1.Kind == 0)) rfl rfl rfl <| s_mov (.bool (j_1.Kind == 0)) rfl <| w_done <| k_seq <| ?_
 rcases oi hf with ⟨c2, hf⟩ | ⟨c2, hf⟩
 ·refine w_condt rfl c2 <| awp_seq <| w_reg <| s_q (.ptr 0 0 1) rfl trivial rfl <| s_q (.int .i64 j_1.N) rfl nle rfl <| s_q (.bool (j_1.N == 0)) rfl rfl rfl <| s_mov (.bool (j_1.N == 0)) rfl <| ?_; refine s_g (v := (j_1.N == 0)) (.ptr 0 0 2) rfl (fun hv => by (try simp only [gs_on hv]); exact ⟨rfl, trivial, rfl⟩) ?_; refine s_g (v := (j_1.N == 0)) (.str j_1.T) rfl (fun hv => by (try simp only [gs_on hv]); exact ⟨rfl, nle, rfl⟩) ?_; refine s_g (v := (j_1.N == 0)) (.bool (j_1.T == [])) rfl (fun hv => by (try simp only [gs_on hv]); exact ⟨rfl, trivial, rfl⟩) ?_; refine s_pick (x := (j_1.T == [])) (y := false) rfl (fun hv => by (try simp only [gs_on hv]); rfl) (fun hv => by (try simp only [gs_on hv]); rfl) ?_; refine s_mov (.bool (bif (j_1.N == 0) then (j_1.T == []) else false)) rfl ?_
  refine s_g (v := (bif (j_1.N == 0) then (j_1.T == []) else false)) (.ptr 0 0 3) rfl (fun hv => by (try simp only [gs_on hv]); exact ⟨rfl, trivial, rfl⟩) ?_; refine s_g (v := (bif (j_1.N == 0) then (j_1.T == []) else false)) (.lst 1 (j_1.Keys.map AV.str)) rfl (fun hv => by (try simp only [gs_on hv]); exact ⟨rfl, nle, rfl⟩) ?_; refine s_g (v := (bif (j_1.N == 0) then (j_1.T == []) else false)) (.int .i64 (j_1.Keys.length : Int)) rfl (fun hv => by (try simp only [gs_on hv]); exact ⟨rfl, trivial, lenV _ _⟩) ?_; refine s_g (v := (bif (j_1.N == 0) then (j_1.T == []) else false)) (.bool ((j_1.Keys.length : Int) == 0)) rfl (fun hv => by (try simp only [gs_on hv]); exact ⟨rfl, rfl, rfl⟩) ?_; refine s_pick (x := ((j_1.Keys.length : Int) == 0)) (y := false) rfl (fun hv => by (try simp only [gs_on hv]); rfl) (fun hv => by (try simp only [gs_on hv]); rfl) ?_
  refine s_mov (.bool (bif (bif (j_1.N == 0) then (j_1.T == []) else false) then ((j_1.Keys.length : Int) == 0) else false)) rfl ?_; refine s_g (v := (bif (bif (j_1.N == 0) then (j_1.T == []) else false) then ((j_1.Keys.length : Int) == 0) else false)) (.ptr 0 0 4) rfl (fun hv => by (try simp only [gs_on hv]); exact ⟨rfl, trivial, rfl⟩) ?_; refine s_g (v := (bif (bif (j_1.N == 0) then (j_1.T == []) else false) then ((j_1.Keys.length : Int) == 0) else false)) (.lst 5 (j_1.Items.map encGJson)) rfl (fun hv => by (try simp only [gs_on hv]); exact ⟨rfl, nle, rfl⟩) ?_; refine s_g (v := (bif (bif (j_1.N == 0) then (j_1.T == []) else false) then ((j_1.Keys.length : Int) == 0) else false)) (.int .i64 (j_1.Items.length : Int)) rfl (fun hv => by (try simp only [gs_on hv]); exact ⟨rfl, trivial, lenV _ _⟩) ?_
  refine s_g (v := (bif (bif (j_1.N == 0) then (j_1.T == []) else false) then ((j_1.Keys.length : Int) == 0) else false)) (.bool ((j_1.Items.length : Int) == 0)) rfl (fun hv => by (try simp only [gs_on hv]); exact ⟨rfl, rfl, rfl⟩) ?_; refine s_pick (x := ((j_1.Items.length : Int) == 0)) (y := false) rfl (fun hv => by (try simp only [gs_on hv]); rfl) (fun hv => by (try simp only [gs_on hv]); rfl) ?_; refine s_mov (.bool (bif (bif (bif (j_1.N == 0) then (j_1.T == []) else false) then ((j_1.Keys.length : Int) == 0) else false) then ((j_1.Items.length : Int) == 0) else false)) rfl <| w_done <| k_seq <| w_ret <| ?_; obtain rfl := os hf; exact r_flat ⟨trivial, trivial⟩ rfl (.refl _)
 ·refine w_condf rfl (bf c2) <| awp_seq <| w_reg <| s_q (.bool (j_1.Kind == 1)) rfl rfl rfl <| s_mov (.bool (j_1.Kind == 1)) rfl <| w_done <| k_seq <| ?_
  rcases oi hf with ⟨c5, hf⟩ | ⟨c5, hf⟩
  ·refine w_condt rfl c5 <| awp_seq <| w_reg <| s_q (.ptr 0 0 1) rfl trivial rfl <| s_q (.int .i64 j_1.N) rfl nle rfl <| ?_
   obtain ⟨r_6, er7, hf⟩ := ob hf
   refine s_do (o_call (w_impl_within _ _ _ _ er7) rfl (.refl _) rfl) <| s_mov (.bool r_6) rfl <| ?_; refine s_g (v := r_6) (.ptr 0 0 2) rfl (fun hv => by (try simp only [gs_on hv]); exact ⟨rfl, trivial, rfl⟩) ?_; refine s_g (v := r_6) (.str j_1.T) rfl (fun hv => by (try simp only [gs_on hv]); exact ⟨rfl, nle, rfl⟩) ?_; refine s_g (v := r_6) (.bool (j_1.T == [])) rfl (fun hv => by (try simp only [gs_on hv]); exact ⟨rfl, trivial, rfl⟩) ?_; refine s_pick (x := (j_1.T == [])) (y := false) rfl (fun hv => by (try simp only [gs_on hv]); rfl) (fun hv => by (try simp only [gs_on hv]); rfl) ?_; refine s_mov (.bool (bif r_6 then (j_1.T == []) else false)) rfl ?_; refine s_g (v := (bif r_6 then (j_1.T == []) else false)) (.ptr 0 0 3) rfl (fun hv => by (try simp only [gs_on hv]); exact ⟨rfl, trivial, rfl⟩) ?_
   refine s_g (v := (bif r_6 then (j_1.T == []) else false)) (.lst 1 (j_1.Keys.map AV.str)) rfl (fun hv => by (try simp only [gs_on hv]); exact ⟨rfl, nle, rfl⟩) ?_; refine s_g (v := (bif r_6 then (j_1.T == []) else false)) (.int .i64 (j_1.Keys.length : Int)) rfl (fun hv => by (try simp only [gs_on hv]); exact ⟨rfl, trivial, lenV _ _⟩) ?_; refine s_g (v := (bif r_6 then (j_1.T == []) else false)) (.bool ((j_1.Keys.length : Int) == 0)) rfl (fun hv => by (try simp only [gs_on hv]); exact ⟨rfl, rfl, rfl⟩) ?_; refine s_pick (x := ((j_1.Keys.length : Int) == 0)) (y := false) rfl (fun hv => by (try simp only [gs_on hv]); rfl) (fun hv => by (try simp only [gs_on hv]); rfl) ?_; refine s_mov (.bool (bif (bif r_6 then (j_1.T == []) else false) then ((j_1.Keys.length : Int) == 0) else false)) rfl ?_
   refine s_g (v := (bif (bif r_6 then (j_1.T == []) else false) then ((j_1.Keys.length : Int) == 0) else false)) (.ptr 0 0 4) rfl (fun hv => by (try simp only [gs_on hv]); exact ⟨rfl, trivial, rfl⟩) ?_; refine s_g (v := (bif (bif r_6 then (j_1.T == []) else false) then ((j_1.Keys.length : Int) == 0) else false)) (.lst 5 (j_1.Items.map encGJson)) rfl (fun hv => by (try simp only [gs_on hv]); exact ⟨rfl, nle, rfl⟩) ?_; refine s_g (v := (bif (bif r_6 then (j_1.T == []) else false) then ((j_1.Keys.length : Int) == 0) else false)) (.int .i64 (j_1.Items.length : Int)) rfl (fun hv => by (try simp only [gs_on hv]); exact ⟨rfl, trivial, lenV _ _⟩) ?_; refine s_g (v := (bif (bif r_6 then (j_1.T == []) else false) then ((j_1.Keys.length : Int) == 0) else false)) (.bool ((j_1.Items.length : Int) == 0)) rfl (fun hv => by (try simp only [gs_on hv]); exact ⟨rfl, rfl, rfl⟩) ?_
   refine s_pick (x := ((j_1.Items.length : Int) == 0)) (y := false) rfl (fun hv => by (try simp only [gs_on hv]); rfl) (fun hv => by (try simp only [gs_on hv]); rfl) ?_; refine s_mov (.bool (bif (bif (bif r_6 then (j_1.T == []) else false) then ((j_1.Keys.length : Int) == 0) else false) then ((j_1.Items.length : Int) == 0) else false)) rfl <| w_done <| k_seq <| w_ret <| ?_; obtain rfl := os hf; exact r_flat ⟨trivial, trivial⟩ rfl (.refl _)
  ·refine w_condf rfl (bf c5) <| awp_seq <| w_reg <| s_q (.bool (j_1.Kind == 2)) rfl rfl rfl <| s_mov (.bool (j_1.Kind == 2)) rfl <| w_done <| k_seq <| ?_
   rcases oi hf with ⟨c10, hf⟩ | ⟨c10, hf⟩
   ·refine w_condt rfl c10 <| awp_seq <| w_reg <| s_q (.ptr 0 0 1) rfl trivial rfl <| s_q (.int .i64 j_1.N) rfl nle rfl <| ?_
    obtain ⟨r_11, er12, hf⟩ := ob hf
    refine s_do (o_call (w_impl_isNumber _ _ er12) rfl (.refl _) rfl) <| s_mov (.bool r_11) rfl <| ?_; refine s_g (v := r_11) (.ptr 0 0 2) rfl (fun hv => by (try simp only [gs_on hv]); exact ⟨rfl, trivial, rfl⟩) ?_; refine s_g (v := r_11) (.str j_1.T) rfl (fun hv => by (try simp only [gs_on hv]); exact ⟨rfl, nle, rfl⟩) ?_; refine s_g (v := r_11) (.bool (j_1.T == [])) rfl (fun hv => by (try simp only [gs_on hv]); exact ⟨rfl, trivial, rfl⟩) ?_; refine s_pick (x := (j_1.T == [])) (y := false) rfl (fun hv => by (try simp only [gs_on hv]); rfl) (fun hv => by (try simp only [gs_on hv]); rfl) ?_; refine s_mov (.bool (bif r_11 then (j_1.T == []) else false)) rfl ?_; refine s_g (v := (bif r_11 then (j_1.T == []) else false)) (.ptr 0 0 3) rfl (fun hv => by (try simp only [gs_on hv]); exact ⟨rfl, trivial, rfl⟩) ?_
    refine s_g (v := (bif r_11 then (j_1.T == []) else false)) (.lst 1 (j_1.Keys.map AV.str)) rfl (fun hv => by (try simp only [gs_on hv]); exact ⟨rfl, nle, rfl⟩) ?_; refine s_g (v := (bif r_11 then (j_1.T == []) else false)) (.int .i64 (j_1.Keys.length : Int)) rfl (fun hv => by (try simp only [gs_on hv]); exact ⟨rfl, trivial, lenV _ _⟩) ?_; refine s_g (v := (bif r_11 then (j_1.T == []) else false)) (.bool ((j_1.Keys.length : Int) == 0)) rfl (fun hv => by (try simp only [gs_on hv]); exact ⟨rfl, rfl, rfl⟩) ?_; refine s_pick (x := ((j_1.Keys.length : Int) == 0)) (y := false) rfl (fun hv => by (try simp only [gs_on hv]); rfl) (fun hv => by (try simp only [gs_on hv]); rfl) ?_; refine s_mov (.bool (bif (bif r_11 then (j_1.T == []) else false) then ((j_1.Keys.length : Int) == 0) else false)) rfl ?_
    refine s_g (v := (bif (bif r_11 then (j_1.T == []) else false) then ((j_1.Keys.length : Int) == 0) else false)) (.ptr 0 0 4) rfl (fun hv => by (try simp only [gs_on hv]); exact ⟨rfl, trivial, rfl⟩) ?_; refine s_g (v := (bif (bif r_11 then (j_1.T == []) else false) then ((j_1.Keys.length : Int) == 0) else false)) (.lst 5 (j_1.Items.map encGJson)) rfl (fun hv => by (try simp only [gs_on hv]); exact ⟨rfl, nle, rfl⟩) ?_; refine s_g (v := (bif (bif r_11 then (j_1.T == []) else false) then ((j_1.Keys.length : Int) == 0) else false)) (.int .i64 (j_1.Items.length : Int)) rfl (fun hv => by (try simp only [gs_on hv]); exact ⟨rfl, trivial, lenV _ _⟩) ?_; refine s_g (v := (bif (bif r_11 then (j_1.T == []) else false) then ((j_1.Keys.length : Int) == 0) else false)) (.bool ((j_1.Items.length : Int) == 0)) rfl (fun hv => by (try simp only [gs_on hv]); exact ⟨rfl, rfl, rfl⟩) ?_
    refine s_pick (x := ((j_1.Items.length : Int) == 0)) (y := false) rfl (fun hv => by (try simp only [gs_on hv]); rfl) (fun hv => by (try simp only [gs_on hv]); rfl) ?_; refine s_mov (.bool (bif (bif (bif r_11 then (j_1.T == []) else false) then ((j_1.Keys.length : Int) == 0) else false) then ((j_1.Items.length : Int) == 0) else false)) rfl <| w_done <| k_seq <| w_ret <| ?_; obtain rfl := os hf; exact r_flat ⟨trivial, trivial⟩ rfl (.refl _)
   ·refine w_condf rfl (bf c10) <| awp_seq <| w_reg <| s_q (.bool (j_1.Kind == 3)) rfl rfl rfl <| s_mov (.bool (j_1.Kind == 3)) rfl <| w_done <| k_seq <| ?_
    rcases oi hf with ⟨c15, hf⟩ | ⟨c15, hf⟩
    ·refine w_condt rfl c15 <| awp_seq <| w_reg <| s_q (.ptr 0 0 1) rfl trivial rfl <| s_q (.int .i64 j_1.N) rfl nle rfl <| s_q (.bool (j_1.N == 0)) rfl rfl rfl <| s_mov (.bool (j_1.N == 0)) rfl <| ?_
     rcases oi hf with ⟨c16, hf⟩ | ⟨c16, hf⟩
     ·refine s_lit (s := 76) (b := true) rfl c16 <| s_on rfl <| s_q (.ptr 0 0 2) rfl trivial rfl <| s_on rfl <| s_q (.str j_1.T) rfl nle rfl <| s_on rfl <| ?_
      obtain ⟨r_17, er18, hf⟩ := ob hf
      refine s_do (o_call (w_impl_isPlain _ _ er18) rfl (.refl _) rfl) <| s_q (.bool r_17) rfl trivial rfl <| s_mov (.bool r_17) rfl <| ?_; refine s_g (v := r_17) (.ptr 0 0 3) rfl (fun hv => by (try simp only [gs_on hv]); exact ⟨rfl, trivial, rfl⟩) ?_; refine s_g (v := r_17) (.lst 1 (j_1.Keys.map AV.str)) rfl (fun hv => by (try simp only [gs_on hv]); exact ⟨rfl, nle, rfl⟩) ?_; refine s_g (v := r_17) (.int .i64 (j_1.Keys.length : Int)) rfl (fun hv => by (try simp only [gs_on hv]); exact ⟨rfl, trivial, lenV _ _⟩) ?_; refine s_g (v := r_17) (.bool ((j_1.Keys.length : Int) == 0)) rfl (fun hv => by (try simp only [gs_on hv]); exact ⟨rfl, rfl, rfl⟩) ?_; refine s_pick (x := ((j_1.Keys.length : Int) == 0)) (y := false) rfl (fun hv => by (try simp only [gs_on hv]); rfl) (fun hv => by (try simp only [gs_on hv]); rfl) ?_
      refine s_mov (.bool (bif r_17 then ((j_1.Keys.length : Int) == 0) else false)) rfl ?_; refine s_g (v := (bif r_17 then ((j_1.Keys.length : Int) == 0) else false)) (.ptr 0 0 4) rfl (fun hv => by (try simp only [gs_on hv]); exact ⟨rfl, trivial, rfl⟩) ?_; refine s_g (v := (bif r_17 then ((j_1.Keys.length : Int) == 0) else false)) (.lst 5 (j_1.Items.map encGJson)) rfl (fun hv => by (try simp only [gs_on hv]); exact ⟨rfl, nle, rfl⟩) ?_; refine s_g (v := (bif r_17 then ((j_1.Keys.length : Int) == 0) else false)) (.int .i64 (j_1.Items.length : Int)) rfl (fun hv => by (try simp only [gs_on hv]); exact ⟨rfl, trivial, lenV _ _⟩) ?_; refine s_g (v := (bif r_17 then ((j_1.Keys.length : Int) == 0) else false)) (.bool ((j_1.Items.length : Int) == 0)) rfl (fun hv => by (try simp only [gs_on hv]); exact ⟨rfl, rfl, rfl⟩) ?_
      refine s_pick (x := ((j_1.Items.length : Int) == 0)) (y := false) rfl (fun hv => by (try simp only [gs_on hv]); rfl) (fun hv => by (try simp only [gs_on hv]); rfl) ?_; refine s_mov (.bool (bif (bif r_17 then ((j_1.Keys.length : Int) == 0) else false) then ((j_1.Items.length : Int) == 0) else false)) rfl <| w_done <| k_seq <| w_ret <| ?_; obtain rfl := os hf; exact r_flat ⟨trivial, trivial⟩ rfl (.refl _)
     ·refine s_lit (s := 76) (b := false) rfl (bf c16) <| s_off rfl rfl <| s_off rfl rfl <| s_off rfl rfl <| s_q (.bool false) rfl trivial rfl <| s_mov (.bool false) rfl <| s_off rfl rfl <| s_off rfl rfl <| s_off rfl rfl <| s_off rfl rfl <| s_q (.bool false) rfl trivial rfl <| s_mov (.bool false) rfl <| s_off rfl rfl <| s_off rfl rfl <| s_off rfl rfl <| s_off rfl rfl <| s_q (.bool false) rfl trivial rfl <| s_mov (.bool false) rfl <| w_done <| k_seq <| w_ret <| ?_; obtain rfl := os hf; exact r_flat ⟨trivial, trivial⟩ rfl (.refl _)
    ·refine w_condf rfl (bf c15) <| awp_seq <| w_reg <| s_q (.bool (j_1.Kind == 4)) rfl rfl rfl <| s_mov (.bool (j_1.Kind == 4)) rfl <| w_done <| k_seq <| ?_
     rcases oi hf with ⟨c21, hf⟩ | ⟨c21, hf⟩
     ·refine w_condt rfl c21 <| awp_seq <| w_reg <| s_q (.ptr 0 0 1) rfl trivial rfl <| s_q (.int .i64 j_1.N) rfl nle rfl <| s_q (.bool (j_1.N == 0)) rfl rfl rfl <| s_mov (.bool (j_1.N == 0)) rfl <| ?_; refine s_g (v := (j_1.N == 0)) (.ptr 0 0 2) rfl (fun hv => by (try simp only [gs_on hv]); exact ⟨rfl, trivial, rfl⟩) ?_; refine s_g (v := (j_1.N == 0)) (.str j_1.T) rfl (fun hv => by (try simp only [gs_on hv]); exact ⟨rfl, nle, rfl⟩) ?_; refine s_g (v := (j_1.N == 0)) (.bool (j_1.T == [])) rfl (fun hv => by (try simp only [gs_on hv]); exact ⟨rfl, trivial, rfl⟩) ?_; refine s_pick (x := (j_1.T == [])) (y := false) rfl (fun hv => by (try simp only [gs_on hv]); rfl) (fun hv => by (try simp only [gs_on hv]); rfl) ?_; refine s_mov (.bool (bif (j_1.N == 0) then (j_1.T == []) else false)) rfl ?_
      refine s_g (v := (bif (j_1.N == 0) then (j_1.T == []) else false)) (.ptr 0 0 3) rfl (fun hv => by (try simp only [gs_on hv]); exact ⟨rfl, trivial, rfl⟩) ?_; refine s_g (v := (bif (j_1.N == 0) then (j_1.T == []) else false)) (.lst 1 (j_1.Keys.map AV.str)) rfl (fun hv => by (try simp only [gs_on hv]); exact ⟨rfl, nle, rfl⟩) ?_; refine s_g (v := (bif (j_1.N == 0) then (j_1.T == []) else false)) (.int .i64 (j_1.Keys.length : Int)) rfl (fun hv => by (try simp only [gs_on hv]); exact ⟨rfl, trivial, lenV _ _⟩) ?_; refine s_g (v := (bif (j_1.N == 0) then (j_1.T == []) else false)) (.bool ((j_1.Keys.length : Int) == 0)) rfl (fun hv => by (try simp only [gs_on hv]); exact ⟨rfl, rfl, rfl⟩) ?_; refine s_pick (x := ((j_1.Keys.length : Int) == 0)) (y := false) rfl (fun hv => by (try simp only [gs_on hv]); rfl) (fun hv => by (try simp only [gs_on hv]); rfl) ?_
      refine s_mov (.bool (bif (bif (j_1.N == 0) then (j_1.T == []) else false) then ((j_1.Keys.length : Int) == 0) else false)) rfl <| w_done <| k_seq <| w_ret <| ?_; obtain rfl := os hf; exact r_flat ⟨trivial, trivial⟩ rfl (.refl _)
     ·refine w_condf rfl (bf c21) <| awp_seq <| w_reg <| s_q (.bool (j_1.Kind == 5)) rfl rfl rfl <| s_mov (.bool (j_1.Kind == 5)) rfl <| w_done <| k_seq <| ?_
      rcases oi hf with ⟨c23, hf⟩ | ⟨c23, hf⟩
      ·refine w_condt rfl c23 <| awp_seq <| w_reg <| s_q (.ptr 0 0 1) rfl trivial rfl <| s_q (.int .i64 j_1.N) rfl nle rfl <| s_q (.bool (j_1.N == 0)) rfl rfl rfl <| s_mov (.bool (j_1.N == 0)) rfl <| ?_; refine s_g (v := (j_1.N == 0)) (.ptr 0 0 2) rfl (fun hv => by (try simp only [gs_on hv]); exact ⟨rfl, trivial, rfl⟩) ?_; refine s_g (v := (j_1.N == 0)) (.str j_1.T) rfl (fun hv => by (try simp only [gs_on hv]); exact ⟨rfl, nle, rfl⟩) ?_; refine s_g (v := (j_1.N == 0)) (.bool (j_1.T == [])) rfl (fun hv => by (try simp only [gs_on hv]); exact ⟨rfl, trivial, rfl⟩) ?_; refine s_pick (x := (j_1.T == [])) (y := false) rfl (fun hv => by (try simp only [gs_on hv]); rfl) (fun hv => by (try simp only [gs_on hv]); rfl) ?_; refine s_mov (.bool (bif (j_1.N == 0) then (j_1.T == []) else false)) rfl ?_
       refine s_g (v := (bif (j_1.N == 0) then (j_1.T == []) else false)) (.ptr 0 0 3) rfl (fun hv => by (try simp only [gs_on hv]); exact ⟨rfl, trivial, rfl⟩) ?_; refine s_g (v := (bif (j_1.N == 0) then (j_1.T == []) else false)) (.lst 1 (j_1.Keys.map AV.str)) rfl (fun hv => by (try simp only [gs_on hv]); exact ⟨rfl, nle, rfl⟩) ?_; refine s_g (v := (bif (j_1.N == 0) then (j_1.T == []) else false)) (.int .i64 (j_1.Keys.length : Int)) rfl (fun hv => by (try simp only [gs_on hv]); exact ⟨rfl, trivial, lenV _ _⟩) ?_; refine s_g (v := (bif (j_1.N == 0) then (j_1.T == []) else false)) (.ptr 0 0 4) rfl (fun hv => by (try simp only [gs_on hv]); exact ⟨rfl, trivial, rfl⟩) ?_; refine s_g (v := (bif (j_1.N == 0) then (j_1.T == []) else false)) (.lst 5 (j_1.Items.map encGJson)) rfl (fun hv => by (try simp only [gs_on hv]); exact ⟨rfl, nle, rfl⟩) ?_
       refine s_g (v := (bif (j_1.N == 0) then (j_1.T == []) else false)) (.int .i64 (j_1.Items.length : Int)) rfl (fun hv => by (try simp only [gs_on hv]); exact ⟨rfl, trivial, lenV _ _⟩) ?_; refine s_g (v := (bif (j_1.N == 0) then (j_1.T == []) else false)) (.bool ((j_1.Keys.length : Int) == (j_1.Items.length : Int))) rfl (fun hv => by (try simp only [gs_on hv]); exact ⟨rfl, rfl, rfl⟩) ?_; refine s_pick (x := ((j_1.Keys.length : Int) == (j_1.Items.length : Int))) (y := false) rfl (fun hv => by (try simp only [gs_on hv]); rfl) (fun hv => by (try simp only [gs_on hv]); rfl) ?_; refine s_mov (.bool (bif (bif (j_1.N == 0) then (j_1.T == []) else false) then ((j_1.Keys.length : Int) == (j_1.Items.length : Int)) else false)) rfl ?_
       rcases oi hf with ⟨c26, hf⟩ | ⟨c26, hf⟩
       ·refine s_lit (s := 128) (b := true) rfl c26 <| s_on rfl <| s_q (.ptr 0 0 3) rfl trivial rfl <| s_on rfl <| s_q (.lst 1 (j_1.Keys.map AV.str)) rfl nle rfl <| s_on rfl <| ?_
        obtain ⟨r_27, er28, hf⟩ := ob hf
        refine s_do (o_call (w_impl_areKeys _ _ er28) rfl (.refl _) rfl) <| s_q (.bool r_27) rfl trivial rfl <| s_mov (.bool r_27) rfl <| w_done <| k_seq <| w_ret <| ?_; obtain rfl := os hf; exact r_flat ⟨trivial, trivial⟩ rfl (.refl _)
       ·refine s_lit (s := 128) (b := false) rfl (bf c26) <| s_off rfl rfl <| s_off rfl rfl <| s_off rfl rfl <| s_q (.bool false) rfl trivial rfl <| s_mov (.bool false) rfl <| w_done <| k_seq <| w_ret <| ?_; obtain rfl := os hf; exact r_flat ⟨trivial, trivial⟩ rfl (.refl _)
      ·refine w_condf rfl (bf c23) <| w_skip <| k_blk <| k_seq <| awp_seq <| w_reg <| s_mov (.bool false) rfl <| w_done <| k_seq <| w_ret <| ?_; obtain rfl := os hf; exact r_flat ⟨trivial, trivial⟩ rfl (.refl _)

/- (impl.Json).rightIn$1 -/
def c214_h0 : ACode :=
 (.seq (.reg (tq 3 (.box 5 (.t 0)) (tm 4 (.c (.bool false)) .done)))
 (.seq (.reg (tq 5 (.load 5 true (.t 3)) (tq 6 (.load 1 false (.t 1)) (tq 7 (.bin .add (.t 6) (.c (.int .i64 1))) (tq 8 (.load 1 false (.t 2)) (tq 9 (.call 164 [(.t 5), (.t 7), (.t 8)]) (tq 10 (.not (.t 9)) (tm 4 (.t 10) .done))))))))
 .ret))
theorem fc214_h0 : fcomp Try.prog Try.f214 = some (c214_h0.erase, [.mov (.t 4)], 11) := by kernel_rfl
def impl_Json_rightIn_1_h0 (rec : (GJson → Int → Int → Option (Bool × Int))) (item_1 : GJson) (c_2 : Int) (c_3 : Int) : Option (Bool × Int × Int) :=
    (rec item_1 (w64 (c_2 + 1)) c_3).bind fun r_4 =>
    some ((!r_4.1), c_2, r_4.2)
theorem w_impl_Json_rightIn_1_h0 (rec : (GJson → Int → Int → Option (Bool × Int))) (hrec : ∀ a0 a1 a2 r, rec a0 a1 a2 = some r → CallHeap Try.prog false 164 [(encGJson a0), (.int .i64 a1), (.ptr 0 0 0)] [.box 1 (.int .i64 a2)] (.bool r.1) [.box 1 (.int .i64 r.2)]) (item_1 : GJson) (c_2 : Int) (c_3 : Int) (r : (Bool × Int × Int)) (hf : impl_Json_rightIn_1_h0 rec item_1 c_2 c_3 = some r) : CallHeap Try.prog false 214 [(encGJson item_1), (.ptr 0 0 0), (.ptr 1 0 0)] [.box 1 (.int .i64 c_2), .box 1 (.ptr 2 0 0), .box 1 (.int .i64 c_3)] (.bool r.1) [.box 1 (.int .i64 r.2.1), .box 1 (.ptr 2 0 0), .box 1 (.int .i64 r.2.2)] := by
 refine CallHeap.of_awp mixed Try.func214 fc214_h0 nle ?_; rw [argT_eq]; rw [encGJson_eq item_1]; unfold impl_Json_rightIn_1_h0 at hf; unfold c214_h0; refine (show awp Try.prog false 3 _ (ofL [(0, (.agg [(.int .i64 item_1.Kind), (.int .i64 item_1.N), (.str item_1.T), (.lst 1 (item_1.Keys.map AV.str)), (.lst 5 (item_1.Items.map encGJson))])), (1, (.ptr 0 0 0)), (2, (.ptr 1 0 0))]) [.box 1 (.int .i64 c_2), .box 1 (.ptr 2 0 0), .box 1 (.int .i64 c_3)] _ from ?_); refine awp_seq <| w_reg <| s_do (o_box (j := 3) (c := (.agg [(.int .i64 item_1.Kind), (.int .i64 item_1.N), (.str item_1.T), (.lst 1 (item_1.Keys.map AV.str)), (.lst 5 (item_1.Items.map encGJson))])) rfl trivial rfl rfl) <| s_mov (.bool false) rfl <| w_done <| k_seq <| ?_
 refine awp_seq <| w_reg <| ?_
 obtain ⟨r_4, er5, hf⟩ := ob hf
 refine s_q (.agg [(.int .i64 item_1.Kind), (.int .i64 item_1.N), (.str item_1.T), (.lst 1 (item_1.Keys.map AV.str)), (.lst 5 (item_1.Items.map encGJson))]) rfl nle rfl <| s_q (.int .i64 c_2) rfl ⟨rfl, rfl⟩ rfl <| s_q (.int .i64 (w64 (c_2 + 1))) rfl rfl rfl <| s_q (.ptr 2 0 0) rfl ⟨rfl, rfl⟩ rfl <| ?_; refine s_do (o_callh (v := (.bool r_4.1)) (h2 := [.box 1 (.int .i64 c_2), .box 1 (.ptr 2 0 0), .box 1 (.int .i64 r_4.2), .box 5 (.agg [(.int .i64 item_1.Kind), (.int .i64 item_1.N), (.str item_1.T), (.lst 1 (item_1.Keys.map AV.str)), (.lst 5 (item_1.Items.map encGJson))])]) [] [2] (fun _ => rfl) (hrec _ _ _ _ er5) rfl (.cons (.of_eq (encGJson_eq item_1).symm) (.cons (.refl _) (.cons (.refl _) .nil))) (.refl _) rfl rfl) ?_
 refine s_q (.bool (!r_4.1)) rfl trivial rfl <| s_mov (.bool (!r_4.1)) rfl <| w_done <| k_seq <| w_ret <| ?_; obtain rfl := os hf; exact r_heap [] [0, 1, 2] rfl ⟨trivial, trivial⟩ rfl (.refl _) (.refl _)

/- slices.IndexFunc[[]impl.Json,impl.Json] -/
def c227_h0 : ACode :=
 (.seq (.reg (tm 4 (.c (.int .i64 0)) .done))
 (.seq (.seq (.reg (tm 6 (.t 0) (tq 7 (.len (.t 6)) (tm 8 (.c (.int .i64 0)) .done))))
 (.block 0 (.loop (.seq (.reg (tq 9 (.bin .lss (.t 8) (.t 7)) .done))
 (.seq (.cond (.t 9) .skip
 (.exit 0))
 (.seq (.block 1 (.seq (.reg (tm 10 (.t 8) (tm 5 (.t 10) .done)))
 (.seq (.reg (tm 11 (.t 1) (tm 12 (.t 0) (tm 13 (.t 5) (tq 14 (.iaddr 5 (.t 12) (.t 13)) (tq 15 (.load 5 true (.t 14)) (tq 16 (.calv (.t 11) [(.t 15)]) .done)))))))
 (.cond (.t 16) (.seq (.reg (tm 17 (.t 5) (tm 4 (.t 17) .done)))
 .ret)
 .skip))))
 (.reg (tq 18 (.bin .add (.t 8) (.c (.int .i64 1))) (tm 8 (.t 18) .done)))))))))
 (.cut (.seq (.reg (tq 4 (.mov (.c (.int .i64 (-1)))) .done))
 .ret))))
theorem fc227_h0 : fcomp Try.prog Try.f227 = some (c227_h0.erase, [.mov (.t 4)], 19) := by kernel_rfl
def slices_IndexFunc_impl_Json_impl_Json_h0_L1 (rec : (GJson → Int → Int → Option (Bool × Int))) : List GJson → Nat → Int → Int → Option (Fl (Int × Int × Int) (Int × Int))
  | [], s8_20, x_21, x_22 =>
    some (.go (x_21, x_22))
  | x_38 :: xs, s8_20, x_21, x_22 =>
    (impl_Json_rightIn_1_h0 rec x_38 x_21 x_22).bind fun r_39 =>
    if r_39.1 then
    some (.ret ((s8_20 : Int), r_39.2.1, r_39.2.2))
    else
    slices_IndexFunc_impl_Json_impl_Json_h0_L1 rec xs (s8_20 + 1) r_39.2.1 r_39.2.2

def slices_IndexFunc_impl_Json_impl_Json_h0 (rec : (GJson → Int → Int → Option (Bool × Int))) (s_1 : (List GJson)) (c_2 : Int) (c_3 : Int) : Option (Int × Int × Int) :=
    (slices_IndexFunc_impl_Json_impl_Json_h0_L1 rec s_1 0 c_2 c_3).bind fun q => (match q with
    | .ret r => some r
    | .go (x_29, x_30) =>
    some ((-1), x_29, x_30))
theorem w_slices_IndexFunc_impl_Json_impl_Json_h0 (rec : (GJson → Int → Int → Option (Bool × Int))) (hrec : ∀ a0 a1 a2 r, rec a0 a1 a2 = some r → CallHeap Try.prog false 164 [(encGJson a0), (.int .i64 a1), (.ptr 0 0 0)] [.box 1 (.int .i64 a2)] (.bool r.1) [.box 1 (.int .i64 r.2)]) (s_1 : (List GJson)) (c_2 : Int) (c_3 : Int) (r : (Int × Int × Int)) (hf : slices_IndexFunc_impl_Json_impl_Json_h0 rec s_1 c_2 c_3 = some r) : CallHeap Try.prog false 227 [(.lst 5 (s_1.map encGJson)), (.fn 214 [(.ptr 0 0 0), (.ptr 1 0 0)])] [.box 1 (.int .i64 c_2), .box 1 (.ptr 2 0 0), .box 1 (.int .i64 c_3)] (.int .i64 r.1) [.box 1 (.int .i64 r.2.1), .box 1 (.ptr 2 0 0), .box 1 (.int .i64 r.2.2)] := by
 refine CallHeap.of_awp mixed Try.func227 fc227_h0 nle ?_; rw [argT_eq]; unfold slices_IndexFunc_impl_Json_impl_Json_h0 at hf; unfold c227_h0; refine (show awp Try.prog false 3 _ (ofL [(0, (.lst 5 (s_1.map encGJson))), (1, (.fn 214 [(.ptr 0 0 0), (.ptr 1 0 0)]))]) [.box 1 (.int .i64 c_2), .box 1 (.ptr 2 0 0), .box 1 (.int .i64 c_3)] _ from ?_); refine awp_seq <| w_reg <| s_mov (.int .i64 0) rfl <| w_done <| k_seq <| awp_seq <| awp_seq <| w_reg <| s_mov (.lst 5 (s_1.map encGJson)) rfl <| s_dof (o_len (enc := encGJson) rfl) fun hl4 => s_mov (.int .i64 0) rfl <| w_done <| k_seq <| ?_
 obtain ⟨p31, hb1, hf⟩ := ob hf
 refine awp_cutx (X := {q : (Int × Int) // p31 = .go q}) (fun q => ([], [.box 1 (.int .i64 q.1.1), .box 1 (.ptr 2 0 0), .box 1 (.int .i64 q.1.2)])) ?_ ?_
 ·refine awp_loop (X := {q : (Nat × Int × Int) // slices_IndexFunc_impl_Json_impl_Json_h0_L1 rec (s_1.drop q.1) q.1 q.2.1 q.2.2 = some p31}) (fun q => ([(0, (.lst 5 (s_1.map encGJson))), (1, (.fn 214 [(.ptr 0 0 0), (.ptr 1 0 0)])), (7, (.int .i64 (s_1.length : Int))), (8, (.int .i64 (q.1.1 : Int)))], [.box 1 (.int .i64 q.1.2.1), .box 1 (.ptr 2 0 0), .box 1 (.int .i64 q.1.2.2)])) (fun q => s_1.length - q.1.1) ⟨(0, c_2, c_3), hb1⟩ ⟨[], [0, 1, 2], _, _, rfl, rfl, ⟨.refl _, ⟨.refl _, ⟨.refl _, ⟨.refl _, trivial⟩⟩⟩⟩, (.refl _)⟩ ?_
  rintro ⟨⟨s8_20, x_21, x_22⟩, hc1⟩
  have hc1 : slices_IndexFunc_impl_Json_impl_Json_h0_L1 rec (s_1.drop s8_20) s8_20 x_21 x_22 = some p31 := hc1
  refine (show awp Try.prog false 3 _ (ofL [(0, (.lst 5 (s_1.map encGJson))), (1, (.fn 214 [(.ptr 0 0 0), (.ptr 1 0 0)])), (7, (.int .i64 (s_1.length : Int))), (8, (.int .i64 (s8_20 : Int)))]) [.box 1 (.int .i64 x_21), .box 1 (.ptr 2 0 0), .box 1 (.int .i64 x_22)] _ from ?_)
  rcases dropc s_1 s8_20 with ⟨hie34, hd37⟩ | ⟨hlt32, x_38, hx33, hd37⟩
  ·rw [hd37, slices_IndexFunc_impl_Json_impl_Json_h0_L1.eq_1] at hc1
   have hq36 := dlf hie34
   refine awp_seq <| w_reg <| s_q (.bool (decide ((s8_20 : Int) < (s_1.length : Int)))) rfl rfl rfl <| w_done <| k_seq <| awp_seq <| w_condf rfl hq36 <| w_exit <| k_seqx <| k_loopx <| k_blkx <| ?_; obtain rfl := os hc1; exact k_cutn ⟨_, rfl⟩ ⟨[], [0, 1, 2], _, _, rfl, rfl, trivial, (.refl _)⟩
  ·rw [hd37, slices_IndexFunc_impl_Json_impl_Json_h0_L1.eq_2] at hc1
   have hq36 := dlt hlt32
   refine awp_seq <| w_reg <| s_q (.bool (decide ((s8_20 : Int) < (s_1.length : Int)))) rfl rfl rfl <| w_done <| k_seq <| awp_seq <| w_condt rfl hq36 <| w_skip <| k_seq <| awp_seq <| w_blk <| awp_seq <| w_reg <| s_mov (.int .i64 (s8_20 : Int)) rfl <| s_mov (.int .i64 (s8_20 : Int)) rfl <| w_done <| k_seq <| awp_seq <| w_reg <| ?_
   obtain ⟨r_39, er40, hc1⟩ := ob hc1
   refine s_mov (.fn 214 [(.ptr 0 0 0), (.ptr 1 0 0)]) rfl <| s_mov (.lst 5 (s_1.map encGJson)) rfl <| s_mov (.int .i64 (s8_20 : Int)) rfl <| s_do (o_iaddrn (enc := encGJson) rfl rfl hx33) <| s_do (o_loadeq (v := (.agg [(.int .i64 x_38.Kind), (.int .i64 x_38.N), (.str x_38.T), (.lst 1 (x_38.Keys.map AV.str)), (.lst 5 (x_38.Items.map encGJson))])) rfl (encGJson_eq _) nle rfl) <| ?_; refine s_do (o_calvh (v := (.bool r_39.1)) (h2 := [.box 1 (.int .i64 r_39.2.1), .box 1 (.ptr 2 0 0), .box 1 (.int .i64 r_39.2.2)]) [] [0, 1, 2] (fun _ => rfl) rfl (by kernel_rfl) (w_impl_Json_rightIn_1_h0 rec hrec _ _ _ _ er40) rfl rfl (.cons (.of_eq (encGJson_eq x_38).symm) (.cons (.refl _) (.cons (.refl _) .nil))) (.refl _) rfl rfl) ?_
   refine w_done <| k_seq <| ?_
   rcases oi hc1 with ⟨c41, hc1⟩ | ⟨c41, hc1⟩
   ·refine w_condt rfl c41 <| awp_seq <| w_reg <| s_mov (.int .i64 (s8_20 : Int)) rfl <| s_mov (.int .i64 (s8_20 : Int)) rfl <| w_done <| k_seq <| w_ret <| ?_; obtain rfl := os hc1; obtain rfl := os hf; exact r_heap [] [0, 1, 2] rfl ⟨trivial, trivial⟩ rfl (.refl _) (.refl _)
   ·refine w_condf rfl (bf c41) <| w_skip <| k_blk <| k_seq <| w_reg <| s_q (.int .i64 (w64 ((s8_20 : Int) + 1))) rfl rfl rfl <| s_mov (.int .i64 (w64 ((s8_20 : Int) + 1))) rfl <| w_done <| ?_; exact k_loopn ⟨((s8_20 + 1), r_39.2.1, r_39.2.2), hc1⟩ (mul hlt32) ⟨[], [0, 1, 2], _, _, rfl, rfl, ⟨.refl _, ⟨.refl _, ⟨.refl _, ⟨.of_eq (congrArg (AV.int _) (w64_incr hlt32 hl4)), trivial⟩⟩⟩⟩, (.refl _)⟩
 ·rintro ⟨⟨x_29, x_30⟩, rfl⟩
  refine awp_seq <| w_reg <| s_mov (.int .i64 (-1)) rfl <| w_done <| k_seq <| w_ret <| ?_; obtain rfl := os hf; exact r_heap [] [0, 1, 2] rfl ⟨trivial, trivial⟩ rfl (.refl _) (.refl _)

/- slices.ContainsFunc[[]impl.Json,impl.Json] -/
def c213_h0 : ACode :=
 (.seq (.reg (tm 4 (.c (.bool false)) .done))
 (.seq (.reg (tm 5 (.t 0) (tm 6 (.t 1) (tq 7 (.call 227 [(.t 5), (.t 6)]) (tq 8 (.bin .geq (.t 7) (.c (.int .i64 0))) (tm 4 (.t 8) .done))))))
 .ret))
theorem fc213_h0 : fcomp Try.prog Try.f213 = some (c213_h0.erase, [.mov (.t 4)], 9) := by kernel_rfl
def slices_ContainsFunc_impl_Json_impl_Json_h0 (rec : (GJson → Int → Int → Option (Bool × Int))) (s_1 : (List GJson)) (c_2 : Int) (c_3 : Int) : Option (Bool × Int × Int) :=
    (slices_IndexFunc_impl_Json_impl_Json_h0 rec s_1 c_2 c_3).bind fun r_4 =>
    some ((decide (r_4.1 ≥ 0)), r_4.2.1, r_4.2.2)
theorem w_slices_ContainsFunc_impl_Json_impl_Json_h0 (rec : (GJson → Int → Int → Option (Bool × Int))) (hrec : ∀ a0 a1 a2 r, rec a0 a1 a2 = some r → CallHeap Try.prog false 164 [(encGJson a0), (.int .i64 a1), (.ptr 0 0 0)] [.box 1 (.int .i64 a2)] (.bool r.1) [.box 1 (.int .i64 r.2)]) (s_1 : (List GJson)) (c_2 : Int) (c_3 : Int) (r : (Bool × Int × Int)) (hf : slices_ContainsFunc_impl_Json_impl_Json_h0 rec s_1 c_2 c_3 = some r) : CallHeap Try.prog false 213 [(.lst 5 (s_1.map encGJson)), (.fn 214 [(.ptr 0 0 0), (.ptr 1 0 0)])] [.box 1 (.int .i64 c_2), .box 1 (.ptr 2 0 0), .box 1 (.int .i64 c_3)] (.bool r.1) [.box 1 (.int .i64 r.2.1), .box 1 (.ptr 2 0 0), .box 1 (.int .i64 r.2.2)] := by
 refine CallHeap.of_awp mixed Try.func213 fc213_h0 nle ?_; rw [argT_eq]; unfold slices_ContainsFunc_impl_Json_impl_Json_h0 at hf; unfold c213_h0; refine (show awp Try.prog false 3 _ (ofL [(0, (.lst 5 (s_1.map encGJson))), (1, (.fn 214 [(.ptr 0 0 0), (.ptr 1 0 0)]))]) [.box 1 (.int .i64 c_2), .box 1 (.ptr 2 0 0), .box 1 (.int .i64 c_3)] _ from ?_); refine awp_seq <| w_reg <| s_mov (.bool false) rfl <| w_done <| k_seq <| awp_seq <| w_reg <| ?_
 obtain ⟨r_4, er5, hf⟩ := ob hf
 refine s_mov (.lst 5 (s_1.map encGJson)) rfl <| s_mov (.fn 214 [(.ptr 0 0 0), (.ptr 1 0 0)]) rfl <| ?_; refine s_do (o_callh (v := (.int .i64 r_4.1)) (h2 := [.box 1 (.int .i64 r_4.2.1), .box 1 (.ptr 2 0 0), .box 1 (.int .i64 r_4.2.2)]) [] [0, 1, 2] (fun _ => rfl) (w_slices_IndexFunc_impl_Json_impl_Json_h0 rec hrec _ _ _ _ er5) rfl (.refl _) (.refl _) rfl rfl) ?_; refine s_q (.bool (decide (r_4.1 ≥ 0))) rfl rfl rfl <| s_mov (.bool (decide (r_4.1 ≥ 0))) rfl <| w_done <| k_seq <| w_ret <| ?_; obtain rfl := os hf; exact r_heap [] [0, 1, 2] rfl ⟨trivial, trivial⟩ rfl (.refl _) (.refl _)

/- (impl.Json).rightIn -/
def c164_h0 : ACode :=
 (.seq (.reg (tq 3 (.box 5 (.t 0)) (tq 4 (.box 1 (.t 1)) (tq 5 (.box 1 (.t 2)) (tm 6 (.c (.bool false)) .done)))))
 (.seq (.seq (.reg (tq 7 (.load 1 false (.t 5)) (tq 8 (.nilck (.t 7)) (tq 9 (.load 1 false (.t 8)) (tq 10 (.bin .sub (.t 9) (.c (.int .i64 1))) (tq 11 (.nilck (.t 7)) (.q ⟨none, none, .store 1 (.t 11) (.t 10)⟩
 .done)))))))
 (.seq (.reg (tq 12 (.load 1 false (.t 5)) (tq 13 (.nilck (.t 12)) (tq 14 (.load 1 false (.t 13)) (tq 15 (.bin .lss (.t 14) (.c (.int .i64 0))) (tm 16 (.t 15) (tg 17 16 false (.load 1 false (.t 4)) (tg 18 16 false (.bin .geq (.t 17) (.c (.int .i64 12))) (tq 19 (.pick (.t 16) (.c (.bool true)) (.t 18)) (tm 20 (.t 19) (tg 21 20 false (.load 5 true (.t 3)) (tg 22 20 false (.call 212 [(.t 21)]) (tg 23 20 false (.not (.t 22)) (tq 24 (.pick (.t 20) (.c (.bool true)) (.t 23)) .done))))))))))))))
 (.cut (.cond (.t 24) (.seq (.reg (tm 6 (.c (.bool false)) .done))
 .ret)
 .skip))))
 (.seq (.reg (tq 25 (.faddr 4 (.t 3)) (tq 26 (.load 1 false (.t 25)) (tq 27 (.mkfn 214 [(.t 4), (.t 5)]) (tq 28 (.call 213 [(.t 26), (.t 27)]) (tq 29 (.not (.t 28)) (tm 6 (.t 29) .done)))))))
 .ret)))
theorem fc164_h0 : fcomp Try.prog Try.f164 = some (c164_h0.erase, [.mov (.t 6)], 30) := by kernel_rfl
def impl_Json_rightIn_B (rec : (GJson → Int → Int → Option (Bool × Int))) (j_1 : GJson) (deep_2 : Int) (room_3 : Int) : Option (Bool × Int) :=
    ((if (bif (decide (w64 (room_3 - 1) < 0)) then true else (decide (deep_2 ≥ 12))) then
    some true
    else
    (impl_Json_partOK j_1).bind fun r_10 =>
    some (!r_10) : Option Bool)).bind fun s24_7 =>
    if s24_7 then
    some (false, w64 (room_3 - 1))
    else
    (slices_ContainsFunc_impl_Json_impl_Json_h0 rec j_1.Items deep_2 (w64 (room_3 - 1))).bind fun r_13 =>
    some ((!r_13.1), r_13.2.2)
theorem w_impl_Json_rightIn_B (rec : (GJson → Int → Int → Option (Bool × Int))) (hrec : ∀ a0 a1 a2 r, rec a0 a1 a2 = some r → CallHeap Try.prog false 164 [(encGJson a0), (.int .i64 a1), (.ptr 0 0 0)] [.box 1 (.int .i64 a2)] (.bool r.1) [.box 1 (.int .i64 r.2)]) (j_1 : GJson) (deep_2 : Int) (room_3 : Int) (r : (Bool × Int)) (hf : impl_Json_rightIn_B rec j_1 deep_2 room_3 = some r) : CallHeap Try.prog false 164 [(encGJson j_1), (.int .i64 deep_2), (.ptr 0 0 0)] [.box 1 (.int .i64 room_3)] (.bool r.1) [.box 1 (.int .i64 r.2)] := by
 refine CallHeap.of_awp mixed Try.func164 fc164_h0 nle ?_; rw [argT_eq]; rw [encGJson_eq j_1]; unfold impl_Json_rightIn_B at hf; unfold c164_h0; refine (show awp Try.prog false 1 _ (ofL [(0, (.agg [(.int .i64 j_1.Kind), (.int .i64 j_1.N), (.str j_1.T), (.lst 1 (j_1.Keys.map AV.str)), (.lst 5 (j_1.Items.map encGJson))])), (1, (.int .i64 deep_2)), (2, (.ptr 0 0 0))]) [.box 1 (.int .i64 room_3)] _ from ?_); refine awp_seq <| w_reg <| s_do (o_box (j := 1) (c := (.agg [(.int .i64 j_1.Kind), (.int .i64 j_1.N), (.str j_1.T), (.lst 1 (j_1.Keys.map AV.str)), (.lst 5 (j_1.Items.map encGJson))])) rfl trivial rfl rfl) <| s_do (o_box (j := 2) (c := (.int .i64 deep_2)) rfl trivial rfl rfl) <| s_do (o_box (j := 3) (c := (.ptr 0 0 0)) rfl trivial rfl rfl) <| ?_
 refine s_mov (.bool false) rfl <| w_done <| k_seq <| awp_seq <| awp_seq <| w_reg <| s_q (.ptr 0 0 0) rfl ⟨rfl, rfl⟩ rfl <| s_q (.ptr 0 0 0) rfl trivial rfl <| s_q (.int .i64 room_3) rfl ⟨rfl, rfl⟩ rfl <| s_q (.int .i64 (w64 (room_3 - 1))) rfl rfl rfl <| s_q (.ptr 0 0 0) rfl trivial rfl <| s_do0 (o_storebox (v := (.int .i64 (w64 (room_3 - 1)))) (y' := (.int .i64 (w64 (room_3 - 1)))) rfl rfl rfl trivial ⟨rfl, rfl, rfl⟩ ⟨⟨rfl, trivial⟩, trivial⟩ rfl) <| w_done <| k_seq <| awp_seq <| ?_
 obtain ⟨s24_7, hb1, hf⟩ := ob hf
 refine awp_cut ([(3, (.ptr 1 0 0)), (4, (.ptr 2 0 0)), (5, (.ptr 3 0 0)), (24, (.bool s24_7))], [.box 1 (.int .i64 (w64 (room_3 - 1))), .box 5 (.agg [(.int .i64 j_1.Kind), (.int .i64 j_1.N), (.str j_1.T), (.lst 1 (j_1.Keys.map AV.str)), (.lst 5 (j_1.Items.map encGJson))]), .box 1 (.int .i64 deep_2), .box 1 (.ptr 0 0 0)]) ?_ ?_
 ·refine w_reg <| s_q (.ptr 0 0 0) rfl ⟨rfl, rfl⟩ rfl <| s_q (.ptr 0 0 0) rfl trivial rfl <| s_q (.int .i64 (w64 (room_3 - 1))) rfl ⟨rfl, rfl⟩ rfl <| s_q (.bool (decide (w64 (room_3 - 1) < 0))) rfl rfl rfl <| s_mov (.bool (decide (w64 (room_3 - 1) < 0))) rfl <| ?_; refine s_g (v := (decide (w64 (room_3 - 1) < 0))) (.int .i64 deep_2) rfl (fun hv => by (try simp only [gs_on hv]); exact ⟨rfl, ⟨rfl, rfl⟩, rfl⟩) ?_; refine s_g (v := (decide (w64 (room_3 - 1) < 0))) (.bool (decide (deep_2 ≥ 12))) rfl (fun hv => by (try simp only [gs_on hv]); exact ⟨rfl, rfl, rfl⟩) ?_; refine s_pick (x := true) (y := (decide (deep_2 ≥ 12))) rfl (fun hv => by (try simp only [gs_on hv]); rfl) (fun hv => by (try simp only [gs_on hv]); rfl) ?_
  refine s_mov (.bool (bif (decide (w64 (room_3 - 1) < 0)) then true else (decide (deep_2 ≥ 12)))) rfl ?_
  rcases oi hb1 with ⟨c9, hb1⟩ | ⟨c9, hb1⟩
  ·refine s_lit (s := 20) (b := true) rfl c9 <| s_off rfl rfl <| s_off rfl rfl <| s_off rfl rfl <| s_q (.bool true) rfl trivial rfl <| w_done <| ?_; obtain rfl := os hb1; exact ⟨[], [0, 1, 2, 3], _, _, rfl, rfl, ⟨.refl _, ⟨.refl _, ⟨.refl _, ⟨.refl _, trivial⟩⟩⟩⟩, (.refl _)⟩
  ·refine s_lit (s := 20) (b := false) rfl (bf c9) <| s_on rfl <| s_q (.agg [(.int .i64 j_1.Kind), (.int .i64 j_1.N), (.str j_1.T), (.lst 1 (j_1.Keys.map AV.str)), (.lst 5 (j_1.Items.map encGJson))]) rfl nle rfl <| s_on rfl <| ?_
   obtain ⟨r_10, er11, hb1⟩ := ob hb1
   refine s_do (o_call (w_impl_Json_partOK _ _ er11) rfl (.cons (.of_eq (encGJson_eq j_1).symm) .nil) rfl) <| s_on rfl <| s_q (.bool (!r_10)) rfl trivial rfl <| s_q (.bool (!r_10)) rfl trivial rfl <| w_done <| ?_; obtain rfl := os hb1; exact ⟨[], [0, 1, 2, 3], _, _, rfl, rfl, ⟨.refl _, ⟨.refl _, ⟨.refl _, ⟨.refl _, trivial⟩⟩⟩⟩, (.refl _)⟩
 ·rcases oi hf with ⟨c12, hf⟩ | ⟨c12, hf⟩
  ·refine w_condt rfl c12 <| awp_seq <| w_reg <| s_mov (.bool false) rfl <| w_done <| k_seq <| w_ret <| ?_; obtain rfl := os hf; exact r_heap [] [0] rfl ⟨trivial, trivial⟩ rfl (.refl _) (.refl _)
  ·refine w_condf rfl (bf c12) <| w_skip <| k_seq <| awp_seq <| w_reg <| ?_
   obtain ⟨r_13, er14, hf⟩ := ob hf
   refine s_q (.ptr 1 0 4) rfl trivial rfl <| s_q (.lst 5 (j_1.Items.map encGJson)) rfl nle rfl <| s_q (.fn 214 [(.ptr 2 0 0), (.ptr 3 0 0)]) rfl trivial rfl <| ?_; refine s_do (o_callh (v := (.bool r_13.1)) (h2 := [.box 1 (.int .i64 r_13.2.2), .box 5 (.agg [(.int .i64 j_1.Kind), (.int .i64 j_1.N), (.str j_1.T), (.lst 1 (j_1.Keys.map AV.str)), (.lst 5 (j_1.Items.map encGJson))]), .box 1 (.int .i64 r_13.2.1), .box 1 (.ptr 0 0 0)]) [] [2, 3, 0] (fun _ => rfl) (w_slices_ContainsFunc_impl_Json_impl_Json_h0 rec hrec _ _ _ _ er14) rfl (.refl _) (.refl _) rfl rfl) ?_; refine s_q (.bool (!r_13.1)) rfl trivial rfl <| s_mov (.bool (!r_13.1)) rfl <| w_done <| k_seq <| w_ret <| ?_; obtain rfl := os hf; exact r_heap [] [0] rfl ⟨trivial, trivial⟩ rfl (.refl _) (.refl _)
def impl_Json_rightIn : Nat → GJson → Int → Int → Option (Bool × Int)
 | 0, _, _, _ => none
 | k + 1, j_1, deep_2, room_3 => impl_Json_rightIn_B (impl_Json_rightIn k) j_1 deep_2 room_3
theorem w_impl_Json_rightIn : ∀ (k : Nat) (j_1 : GJson) (deep_2 : Int) (room_3 : Int) (r : (Bool × Int)), impl_Json_rightIn k j_1 deep_2 room_3 = some r → CallHeap Try.prog false 164 [(encGJson j_1), (.int .i64 deep_2), (.ptr 0 0 0)] [.box 1 (.int .i64 room_3)] (.bool r.1) [.box 1 (.int .i64 r.2)]
 | 0, j_1, deep_2, room_3, r, h => by rw [impl_Json_rightIn.eq_1] at h; cases h
 | k + 1, j_1, deep_2, room_3, r, h => by
  rw [impl_Json_rightIn.eq_2] at h; exact w_impl_Json_rightIn_B _ (w_impl_Json_rightIn k) j_1 deep_2 room_3 r h

/- impl.JsonOK -/
def c101 : ACode :=
 (.seq (.reg (tq 1 (.box 5 (.t 0)) (tm 2 (.c (.bool false)) .done)))
 (.seq (.reg (tq 3 (.box 1 (.c (.int .i64 0))) (.q ⟨none, none, .store 1 (.t 3) (.c (.int .i64 400))⟩
 .done)))
 (.seq (.reg (tq 4 (.load 5 true (.t 1)) (tq 5 (.call 164 [(.t 4), (.c (.int .i64 0)), (.t 3)]) (tm 2 (.t 5) .done))))
 .ret)))
theorem fc101 : fcomp Try.prog Try.f101 = some (c101.erase, [.mov (.t 2)], 6) := by kernel_rfl
def impl_JsonOK (j_1 : GJson) : Option Bool :=
    (impl_Json_rightIn FUEL j_1 0 400).bind fun r_2 =>
    some r_2.1
theorem w_impl_JsonOK (j_1 : GJson) (r : Bool) (hf : impl_JsonOK j_1 = some r) : CallOK Try.prog 101 .flat [(encGJson j_1)] (.bool r) := by
 refine CallOK.of_awp mixed Try.func101 fc101 nle ?_; rw [argT_eq]; rw [encGJson_eq j_1]; unfold impl_JsonOK at hf; unfold c101; refine (show awp Try.prog false 0 _ (ofL [(0, (.agg [(.int .i64 j_1.Kind), (.int .i64 j_1.N), (.str j_1.T), (.lst 1 (j_1.Keys.map AV.str)), (.lst 5 (j_1.Items.map encGJson))]))]) [] _ from ?_); refine awp_seq <| w_reg <| s_do (o_box (j := 0) (c := (.agg [(.int .i64 j_1.Kind), (.int .i64 j_1.N), (.str j_1.T), (.lst 1 (j_1.Keys.map AV.str)), (.lst 5 (j_1.Items.map encGJson))])) rfl trivial rfl rfl) <| s_mov (.bool false) rfl <| w_done <| k_seq <| awp_seq <| w_reg <| s_do (o_box (j := 1) (c := (.int .i64 0)) rfl trivial rfl rfl) <| s_do0 (o_storebox (v := (.int .i64 400)) (y' := (.int .i64 400)) rfl rfl rfl trivial ⟨rfl, rfl, rfl⟩ ⟨⟨rfl, trivial⟩, trivial⟩ rfl) <| ?_
 refine w_done <| k_seq <| awp_seq <| w_reg <| ?_
 obtain ⟨r_2, er3, hf⟩ := ob hf
 refine s_q (.agg [(.int .i64 j_1.Kind), (.int .i64 j_1.N), (.str j_1.T), (.lst 1 (j_1.Keys.map AV.str)), (.lst 5 (j_1.Items.map encGJson))]) rfl nle rfl ?_; refine s_do (o_callh (v := (.bool r_2.1)) (h2 := [.box 5 (.agg [(.int .i64 j_1.Kind), (.int .i64 j_1.N), (.str j_1.T), (.lst 1 (j_1.Keys.map AV.str)), (.lst 5 (j_1.Items.map encGJson))]), .box 1 (.int .i64 r_2.2)]) [] [1] (fun _ => rfl) (w_impl_Json_rightIn FUEL _ _ _ _ er3) rfl (.cons (.of_eq (encGJson_eq j_1).symm) (.cons (.refl _) (.cons (.refl _) .nil))) (.refl _) rfl rfl) ?_; refine s_mov (.bool r_2.1) rfl <| w_done <| k_seq <| w_ret <| ?_; obtain rfl := os hf; exact r_flat ⟨trivial, trivial⟩ rfl (.refl _)

/- slices.Clone[[]string,string] -/
def c166 : ACode :=
 (.seq (.reg (tm 2 (.c .nil) .done))
 (.seq (.seq (.reg (tm 3 (.t 0) (tq 4 (.isnil false (.t 3)) .done)))
 (.cond (.t 4) (.seq (.reg (tm 2 (.c .nil) .done))
 .ret)
 .skip))
 (.seq (.reg (tq 5 (.bslice 1 []) (tm 6 (.t 0) (tq 7 (.append 1 16 (.t 5) (.t 6)) (tm 2 (.t 7) .done)))))
 .ret)))
theorem fc166 : fcomp Try.prog Try.f166 = some (c166.erase, [.mov (.t 2)], 8) := by kernel_rfl
def slices_Clone_string_string (s_1 : (List Str)) : Option (List Str) :=
    if ([] ++ s_1).length ≤ 2 ^ 30 then
    some ([] ++ s_1)
    else none
theorem w_slices_Clone_string_string (s_1 : (List Str)) (r : (List Str)) (hf : slices_Clone_string_string s_1 = some r) : CallOK Try.prog 166 .fresh [(.lst 1 (s_1.map AV.str))] (.lst 1 (r.map AV.str)) := by
 refine CallOK.of_awp mixed Try.func166 fc166 nle ?_; rw [argT_eq]; unfold slices_Clone_string_string at hf; unfold c166; refine (show awp Try.prog true 0 _ (ofL [(0, (.lst 1 (s_1.map AV.str)))]) [] _ from ?_); refine awp_seq <| w_reg <| s_mov .nil rfl <| w_done <| k_seq <| awp_seq <| awp_seq <| w_reg <| s_mov (.lst 1 (s_1.map AV.str)) rfl <| s_isn (l := s_1.map AV.str) rfl <| ?_
 intro b hb3
 rcases b with _ | _
 ·refine w_done <| k_seq <| w_condf rfl rfl <| w_skip <| k_seq <| awp_seq <| w_reg <| ?_
  obtain ⟨g2, hf⟩ := og hf
  refine s_do (o_bslice (j := 0) (as' := []) rfl (fun _ => by decide) trivial (.refl _) rfl rfl rfl) ?_; refine s_mov (.lst 1 (s_1.map AV.str)) rfl ?_
  refine s_do (o_appendd (j := 1) (L := (([] ++ s_1).map AV.str)) (len := ([] ++ s_1).length) rfl false rfl rfl (fun _ => flm (fun _ => rfl) _) (fun _ _ _ => flm (fun _ => rfl) _) (by decide) ((by simp)) (by simp <;> omega) g2 rfl rfl) ?_
  refine s_mov (.own 1 0 (([] ++ s_1).length)) rfl <| w_done <| k_seq <| w_ret <| ?_; obtain rfl := os hf; exact r_fresh ⟨trivial, trivial⟩ rfl (by decide) (.of_eq (congrArg (AV.lst _) (tk (enc := AV.str) ([] ++ s_1))))
 ·have he4 : s_1 = [] := mapnil (hb3 rfl)
  have hE : (if ([] ++ s_1).length ≤ 2 ^ 30 then some ([] ++ s_1) else none) = (some []) := by simp [he4]
  rw [hE] at hf; refine w_done <| k_seq <| w_condt rfl rfl <| awp_seq <| w_reg <| s_mov .nil rfl <| w_done <| k_seq <| w_ret <| ?_; obtain rfl := os hf; exact r_fresh ⟨trivial, trivial⟩ rfl (by decide) (.nil _)

/- impl.copyJson -/
def c103 : ACode :=
 (.seq (.reg (tq 1 (.box 5 (.t 0)) (tq 2 (.box 5 (.c (.agg [(.int .i64 0), (.int .i64 0), (.str []), .nil, .nil]))) .done)))
 (.seq (.reg (tq 6 (.faddr 3 (.t 1)) (tq 7 (.load 1 false (.t 6)) (tq 8 (.call 166 [(.t 7)]) (tq 9 (.faddr 3 (.t 1)) (.q ⟨none, none, .store 1 (.t 9) (.t 8)⟩
 .done))))))
 (.seq (.reg (tq 10 (.bslice 5 []) (tm 3 (.t 10) .done)))
 (.seq (.seq (.reg (tq 11 (.faddr 4 (.t 1)) (tq 12 (.load 1 false (.t 11)) (tq 13 (.len (.t 12)) (tm 14 (.c (.int .i64 0)) .done)))))
 (.block 0 (.loop (.seq (.reg (tq 15 (.bin .lss (.t 14) (.t 13)) .done))
 (.seq (.cond (.t 15) .skip
 (.exit 0))
 (.seq (.block 1 (.seq (.reg (tq 16 (.iaddr 5 (.t 12) (.t 14)) (tq 17 (.load 5 true (.t 16)) (tq 5 (.box 5 (.c (.agg [(.int .i64 0), (.int .i64 0), (.str []), .nil, .nil]))) (.q ⟨none, none, .store 5 (.t 5) (.t 17)⟩
 .done)))))
 (.reg (tm 18 (.t 3) (tq 19 (.load 5 true (.t 5)) (tq 20 (.call 103 [(.t 19)]) (tq 21 (.bslice 5 [(.t 20)]) (tq 22 (.append 5 80 (.t 18) (.t 21)) (tm 3 (.t 22) .done)))))))))
 (.reg (tq 23 (.bin .add (.t 14) (.c (.int .i64 1))) (tm 14 (.t 23) .done)))))))))
 (.cut (.seq (.seq (.reg (tq 24 (.faddr 4 (.t 1)) (.q ⟨none, none, .store 1 (.t 24) (.c .nil)⟩
 .done)))
 (.seq (.reg (tm 25 (.t 3) (tq 26 (.len (.t 25)) (tq 27 (.bin .gtr (.t 26) (.c (.int .i64 0))) .done))))
 (.cond (.t 27) (.reg (tm 28 (.t 3) (tq 29 (.faddr 4 (.t 1)) (.q ⟨none, none, .store 1 (.t 29) (.t 28)⟩
 .done))))
 .skip)))
 (.seq (.reg (tq 30 (.load 5 true (.t 1)) (.q ⟨none, none, .store 5 (.t 2) (.t 30)⟩
 .done)))
 .ret)))))))
theorem fc103 : fcomp Try.prog Try.f103 = some (c103.erase, [.load 5 true (.t 2)], 31) := by kernel_rfl
def impl_copyJson_B_L1 (rec : (GJson → Option GJson)) : List GJson → (List GJson) → Option (List GJson)
  | [], items_20 =>
    some items_20
  | x_35 :: xs, items_20 =>
    (rec x_35).bind fun r_36 =>
    if (items_20 ++ [r_36]).length ≤ 2 ^ 30 then
    impl_copyJson_B_L1 rec xs  (items_20 ++ [r_36])
    else none

def impl_copyJson_B (rec : (GJson → Option GJson)) (j_1 : GJson) : Option GJson :=
    (slices_Clone_string_string j_1.Keys).bind fun r_2 =>
    (impl_copyJson_B_L1 rec j_1.Items []).bind fun items_27 =>
    if (decide ((items_27.length : Int) > 0)) then
    some (⟨j_1.Kind, j_1.N, j_1.T, r_2, items_27⟩ : GJson)
    else
    some (⟨j_1.Kind, j_1.N, j_1.T, r_2, []⟩ : GJson)
theorem w_impl_copyJson_B (rec : (GJson → Option GJson)) (hrec : ∀ a0 r, rec a0 = some r → CallOK Try.prog 103 .fresh [(encGJson a0)] (encGJson r)) (j_1 : GJson) (r : GJson) (hf : impl_copyJson_B rec j_1 = some r) : CallOK Try.prog 103 .fresh [(encGJson j_1)] (encGJson r) := by
 refine CallOK.of_awp mixed Try.func103 fc103 nle ?_; rw [argT_eq]; rw [encGJson_eq j_1]; unfold impl_copyJson_B at hf; unfold c103; refine (show awp Try.prog true 0 _ (ofL [(0, (.agg [(.int .i64 j_1.Kind), (.int .i64 j_1.N), (.str j_1.T), (.lst 1 (j_1.Keys.map AV.str)), (.lst 5 (j_1.Items.map encGJson))]))]) [] _ from ?_); refine awp_seq <| w_reg <| s_do (o_box (j := 0) (c := (.agg [(.int .i64 j_1.Kind), (.int .i64 j_1.N), (.str j_1.T), (.lst 1 (j_1.Keys.map AV.str)), (.lst 5 (j_1.Items.map encGJson))])) rfl trivial rfl rfl) <| s_do (o_box (j := 1) (c := (.agg [(.int .i64 0), (.int .i64 0), (.str []), .nil, .nil])) rfl trivial rfl rfl) <| w_done <| k_seq <| awp_seq <| w_reg <| ?_
 obtain ⟨r_2, er3, hf⟩ := ob hf
 refine s_q (.ptr 0 0 3) rfl trivial rfl <| s_q (.lst 1 (j_1.Keys.map AV.str)) rfl nle rfl <| s_do (o_callf (v := (.own 2 0 r_2.length)) (h' := [.row 1 (r_2.map AV.str)]) (w_slices_Clone_string_string _ _ er3) rfl (.refl _) (by simp only [openV, openVs, List.length_map, List.nil_append, List.append_nil, List.cons_append]; rfl)) <| s_q (.ptr 0 0 3) rfl trivial rfl <| s_do0 (o_storebox (v := (.own 2 0 r_2.length)) (y' := (.agg [(.int .i64 j_1.Kind), (.int .i64 j_1.N), (.str j_1.T), (.own 2 0 r_2.length), (.lst 5 (j_1.Items.map encGJson))])) rfl rfl rfl trivial ⟨rfl, nle⟩ ⟨⟨rfl, trivial⟩, trivial⟩ rfl) <| w_done <| k_seq <| awp_seq <| w_reg <| ?_; refine s_do (o_bslice (j := 3) (as' := []) rfl (fun _ => by decide) trivial (.refl _) rfl rfl rfl) ?_
 refine s_mov (.own 3 0 0) rfl <| w_done <| k_seq <| awp_seq <| awp_seq <| w_reg <| s_q (.ptr 0 0 4) rfl trivial rfl <| s_q (.lst 5 (j_1.Items.map encGJson)) rfl nle rfl <| s_dof (o_len (enc := encGJson) rfl) fun hl4 => s_mov (.int .i64 0) rfl <| w_done <| k_seq <| ?_
 obtain ⟨items_27, hb1, hf⟩ := ob hf
 refine awp_cut ([(1, (.ptr 0 0 0)), (2, (.ptr 1 0 0)), (3, (.own 2 0 items_27.length))], [.box 5 (.agg [(.int .i64 j_1.Kind), (.int .i64 j_1.N), (.str j_1.T), (.own 3 0 r_2.length), (.lst 5 (j_1.Items.map encGJson))]), .box 5 (.agg [(.int .i64 0), (.int .i64 0), (.str []), .nil, .nil]), .row 5 (items_27.map encGJson), .row 1 (r_2.map AV.str)]) ?_ ?_
 ·refine awp_loop (X := {q : (Nat × (List GJson)) // impl_copyJson_B_L1 rec (j_1.Items.drop q.1) q.2 = some items_27}) (fun q => ([(1, (.ptr 0 0 0)), (2, (.ptr 1 0 0)), (3, (.own 2 0 q.1.2.length)), (12, (.lst 5 (j_1.Items.map encGJson))), (13, (.int .i64 (j_1.Items.length : Int))), (14, (.int .i64 (q.1.1 : Int)))], [.box 5 (.agg [(.int .i64 j_1.Kind), (.int .i64 j_1.N), (.str j_1.T), (.own 3 0 r_2.length), (.lst 5 (j_1.Items.map encGJson))]), .box 5 (.agg [(.int .i64 0), (.int .i64 0), (.str []), .nil, .nil]), .row 5 (q.1.2.map encGJson), .row 1 (r_2.map AV.str)])) (fun q => j_1.Items.length - q.1.1) ⟨(0, []), hb1⟩ ⟨[], [0, 1, 3, 2], _, _, rfl, rfl, ⟨.refl _, ⟨.refl _, ⟨.of_eq (congrArg (AV.own _ 0) (by simp)), ⟨.refl _, ⟨.refl _, ⟨.refl _, trivial⟩⟩⟩⟩⟩⟩, (.refl _)⟩ ?_
  rintro ⟨⟨s14_19, items_20⟩, hc1⟩
  have hc1 : impl_copyJson_B_L1 rec (j_1.Items.drop s14_19) items_20 = some items_27 := hc1
  refine (show awp Try.prog true 0 _ (ofL [(1, (.ptr 0 0 0)), (2, (.ptr 1 0 0)), (3, (.own 2 0 items_20.length)), (12, (.lst 5 (j_1.Items.map encGJson))), (13, (.int .i64 (j_1.Items.length : Int))), (14, (.int .i64 (s14_19 : Int)))]) [.box 5 (.agg [(.int .i64 j_1.Kind), (.int .i64 j_1.N), (.str j_1.T), (.own 3 0 r_2.length), (.lst 5 (j_1.Items.map encGJson))]), .box 5 (.agg [(.int .i64 0), (.int .i64 0), (.str []), .nil, .nil]), .row 5 (items_20.map encGJson), .row 1 (r_2.map AV.str)] _ from ?_)
  rcases dropc j_1.Items s14_19 with ⟨hie31, hd34⟩ | ⟨hlt29, x_35, hx30, hd34⟩
  ·rw [hd34, impl_copyJson_B_L1.eq_1] at hc1
   have hq33 := dlf hie31
   refine awp_seq <| w_reg <| s_q (.bool (decide ((s14_19 : Int) < (j_1.Items.length : Int)))) rfl rfl rfl <| w_done <| k_seq <| awp_seq <| w_condf rfl hq33 <| w_exit <| k_seqx <| k_loopx <| k_blkx <| ?_; obtain rfl := os hc1; exact ⟨[], [0, 1, 2, 3], _, _, rfl, rfl, ⟨.refl _, ⟨.refl _, ⟨.refl _, trivial⟩⟩⟩, (.refl _)⟩
  ·rw [hd34, impl_copyJson_B_L1.eq_2] at hc1
   have hq33 := dlt hlt29
   refine awp_seq <| w_reg <| s_q (.bool (decide ((s14_19 : Int) < (j_1.Items.length : Int)))) rfl rfl rfl <| w_done <| k_seq <| awp_seq <| w_condt rfl hq33 <| w_skip <| k_seq <| awp_seq <| w_blk <| awp_seq <| w_reg <| s_do (o_iaddrn (enc := encGJson) rfl rfl hx30) <| s_do (o_loadeq (v := (.agg [(.int .i64 x_35.Kind), (.int .i64 x_35.N), (.str x_35.T), (.lst 1 (x_35.Keys.map AV.str)), (.lst 5 (x_35.Items.map encGJson))])) rfl (encGJson_eq _) nle rfl) <| s_do (o_box (j := 4) (c := (.agg [(.int .i64 0), (.int .i64 0), (.str []), .nil, .nil])) rfl trivial rfl rfl) <| s_do0 (o_storebox (v := (.agg [(.int .i64 x_35.Kind), (.int .i64 x_35.N), (.str x_35.T), (.lst 1 (x_35.Keys.map AV.str)), (.lst 5 (x_35.Items.map encGJson))])) (y' := (.agg [(.int .i64 x_35.Kind), (.int .i64 x_35.N), (.str x_35.T), (.lst 1 (x_35.Keys.map AV.str)), (.lst 5 (x_35.Items.map encGJson))])) rfl rfl rfl trivial ⟨rfl, nle⟩ ⟨⟨rfl, trivial⟩, ⟨⟨rfl, trivial⟩, ⟨⟨rfl, trivial⟩, ⟨⟨rfl, trivial⟩, ⟨⟨rfl, trivial⟩, trivial⟩⟩⟩⟩⟩ rfl) <| ?_
   refine w_done <| k_seq <| w_reg <| ?_
   obtain ⟨r_36, er37, hc1⟩ := ob hc1
   obtain ⟨g38, hc1⟩ := og hc1
   refine s_mov (.own 2 0 items_20.length) rfl <| s_q (.agg [(.int .i64 x_35.Kind), (.int .i64 x_35.N), (.str x_35.T), (.lst 1 (x_35.Keys.map AV.str)), (.lst 5 (x_35.Items.map encGJson))]) rfl nle rfl <| s_do (o_callf (v := (.agg [(.int .i64 r_36.Kind), (.int .i64 r_36.N), (.str r_36.T), (.own 5 0 r_36.Keys.length), (.own 6 0 r_36.Items.length)])) (h' := [.row 1 (r_36.Keys.map AV.str), .row 5 (r_36.Items.map encGJson)]) (hrec _ _ er37) rfl (.cons (.of_eq (encGJson_eq x_35).symm) .nil) (by simp only [openV, openVs, List.length_map, encGJson_eq, List.nil_append, List.append_nil, List.cons_append]; rfl)) <| ?_; refine s_do (o_bslice (j := 7) (as' := [(encGJson r_36)]) rfl (fun _ => by decide) ⟨rfl, trivial⟩ (.cons (leJ (x := r_36) (.agg (.cons (.refl _) (.cons (.refl _) (.cons (.refl _) (.cons (.of_eq (congrArg (AV.lst _) (tk (enc := AV.str) r_36.Keys))) (.cons (.of_eq (congrArg (AV.lst _) (tk (enc := encGJson) r_36.Items))) .nil))))))) .nil) rfl rfl rfl) ?_
   refine s_do (o_appendd (j := 8) (L := ((items_20 ++ [r_36]).map encGJson)) (len := (items_20 ++ [r_36]).length) rfl true rfl rfl (fun h => Bool.noConfusion h) (fun _ _ h => (ownl (show AV.own _ _ _ = AV.lst _ _ from h)).elim) (by decide) (apo (enc := encGJson) items_20 [r_36]) (by simp <;> omega) g38 rfl rfl) ?_
   refine s_mov (.own 8 0 ((items_20 ++ [r_36]).length)) rfl <| w_done <| k_blk <| k_seq <| w_reg <| s_q (.int .i64 (w64 ((s14_19 : Int) + 1))) rfl rfl rfl <| s_mov (.int .i64 (w64 ((s14_19 : Int) + 1))) rfl <| w_done <| ?_; exact k_loopn ⟨((s14_19 + 1), items_20 ++ [r_36]), hc1⟩ (mul hlt29) ⟨[], [0, 1, 8, 3], _, _, rfl, rfl, ⟨.refl _, ⟨.refl _, ⟨.refl _, ⟨.refl _, ⟨.refl _, ⟨.of_eq (congrArg (AV.int _) (w64_incr hlt29 hl4)), trivial⟩⟩⟩⟩⟩⟩, (.refl _)⟩
 ·refine awp_seq <| awp_seq <| w_reg <| s_q (.ptr 0 0 4) rfl trivial rfl <| s_do0 (o_storebox (v := .nil) (y' := (.agg [(.int .i64 j_1.Kind), (.int .i64 j_1.N), (.str j_1.T), (.own 3 0 r_2.length), .nil])) rfl rfl rfl trivial ⟨rfl, nle⟩ ⟨⟨rfl, trivial⟩, trivial⟩ rfl) <| w_done <| k_seq <| awp_seq <| w_reg <| s_mov (.own 2 0 items_27.length) rfl <| s_dof (o_lenown rfl rfl) fun hl39 => s_q (.bool (decide ((items_27.length : Int) > 0))) rfl rfl rfl <| w_done <| k_seq <| ?_
  rcases oi hf with ⟨c40, hf⟩ | ⟨c40, hf⟩
  ·refine w_condt rfl c40 <| w_reg <| s_mov (.own 2 0 items_27.length) rfl <| s_q (.ptr 0 0 4) rfl trivial rfl <| s_do0 (o_storebox (v := (.own 2 0 items_27.length)) (y' := (.agg [(.int .i64 j_1.Kind), (.int .i64 j_1.N), (.str j_1.T), (.own 3 0 r_2.length), (.own 2 0 items_27.length)])) rfl rfl rfl trivial ⟨rfl, nle⟩ ⟨⟨rfl, trivial⟩, trivial⟩ rfl) <| w_done <| k_seq <| awp_seq <| w_reg <| s_q (.agg [(.int .i64 j_1.Kind), (.int .i64 j_1.N), (.str j_1.T), (.own 3 0 r_2.length), (.own 2 0 items_27.length)]) rfl nle rfl <| s_do0 (o_storebox (v := (.agg [(.int .i64 j_1.Kind), (.int .i64 j_1.N), (.str j_1.T), (.own 3 0 r_2.length), (.own 2 0 items_27.length)])) (y' := (.agg [(.int .i64 j_1.Kind), (.int .i64 j_1.N), (.str j_1.T), (.own 3 0 r_2.length), (.own 2 0 items_27.length)])) rfl rfl rfl trivial ⟨rfl, nle⟩ ⟨⟨rfl, trivial⟩, ⟨⟨rfl, trivial⟩, ⟨⟨rfl, trivial⟩, ⟨⟨rfl, trivial⟩, ⟨⟨rfl, trivial⟩, trivial⟩⟩⟩⟩⟩ rfl) <| ?_
   refine w_done <| k_seq <| w_ret <| ?_; obtain rfl := os hf; exact r_fresh ⟨nle, trivial⟩ rfl (by decide) (leJ (x := (⟨j_1.Kind, j_1.N, j_1.T, r_2, items_27⟩ : GJson)) (.agg (.cons (.refl _) (.cons (.refl _) (.cons (.refl _) (.cons (.of_eq (congrArg (AV.lst _) (tk (enc := AV.str) r_2))) (.cons (.of_eq (congrArg (AV.lst _) (tk (enc := encGJson) items_27))) .nil)))))))
  ·refine w_condf rfl (bf c40) <| w_skip <| k_seq <| awp_seq <| w_reg <| s_q (.agg [(.int .i64 j_1.Kind), (.int .i64 j_1.N), (.str j_1.T), (.own 3 0 r_2.length), .nil]) rfl nle rfl <| s_do0 (o_storebox (v := (.agg [(.int .i64 j_1.Kind), (.int .i64 j_1.N), (.str j_1.T), (.own 3 0 r_2.length), .nil])) (y' := (.agg [(.int .i64 j_1.Kind), (.int .i64 j_1.N), (.str j_1.T), (.own 3 0 r_2.length), .nil])) rfl rfl rfl trivial ⟨rfl, nle⟩ ⟨⟨rfl, trivial⟩, ⟨⟨rfl, trivial⟩, ⟨⟨rfl, trivial⟩, ⟨⟨rfl, trivial⟩, ⟨⟨rfl, trivial⟩, trivial⟩⟩⟩⟩⟩ rfl) <| w_done <| k_seq <| w_ret <| ?_; obtain rfl := os hf; exact r_fresh ⟨nle, trivial⟩ rfl (by decide) (leJ (x := (⟨j_1.Kind, j_1.N, j_1.T, r_2, []⟩ : GJson)) (.agg (.cons (.refl _) (.cons (.refl _) (.cons (.refl _) (.cons (.of_eq (congrArg (AV.lst _) (tk (enc := AV.str) r_2))) (.cons (.nil _) .nil)))))))
def impl_copyJson : Nat → GJson → Option GJson
 | 0, _ => none
 | k + 1, j_1 => impl_copyJson_B (impl_copyJson k) j_1
theorem w_impl_copyJson : ∀ (k : Nat) (j_1 : GJson) (r : GJson), impl_copyJson k j_1 = some r → CallOK Try.prog 103 .fresh [(encGJson j_1)] (encGJson r)
 | 0, j_1, r, h => by rw [impl_copyJson.eq_1] at h; cases h
 | k + 1, j_1, r, h => by
  rw [impl_copyJson.eq_2] at h; exact w_impl_copyJson_B _ (w_impl_copyJson k) j_1 r h

/- impl.codeWords -/
def c221 : ACode :=
 (.seq (.reg (tm 0 (.c .nil) .done))
 (.seq (.reg (tq 1 (.bslice 1 [(.c (.str [111, 107])), (.c (.str [98, 97, 100])), (.c (.str [108, 111, 110, 103])), (.c (.str [102, 111, 114, 109])), (.c (.str [114, 97, 110, 103, 101])), (.c (.str [110, 111, 110, 101])), (.c (.str [109, 97, 110, 121])), (.c (.str [102, 117, 108, 108])), (.c (.str [116, 119, 105, 99, 101])), (.c (.str [116, 121, 112, 101])), (.c (.str [116, 97, 98, 108, 101])), (.c (.str [99, 111, 108, 117, 109, 110])), (.c (.str [117, 110, 105, 113, 117, 101])), (.c (.str [114, 101, 102])), (.c (.str [111, 119, 110, 101, 114])), (.c (.str [119, 97, 105, 116])), (.c (.str [97, 98, 111, 114, 116])), (.c (.str [99, 108, 111, 115, 101, 100])), (.c (.str [100, 101, 101, 112])), (.c (.str [109, 101, 116, 104, 111, 100]))]) (tm 0 (.t 1) .done)))
 .ret))
theorem fc221 : fcomp Try.prog Try.f221 = some (c221.erase, [.mov (.t 0)], 2) := by kernel_rfl
def impl_codeWords  : Option (List Str) :=
    some [[111, 107], [98, 97, 100], [108, 111, 110, 103], [102, 111, 114, 109], [114, 97, 110, 103, 101], [110, 111, 110, 101], [109, 97, 110, 121], [102, 117, 108, 108], [116, 119, 105, 99, 101], [116, 121, 112, 101], [116, 97, 98, 108, 101], [99, 111, 108, 117, 109, 110], [117, 110, 105, 113, 117, 101], [114, 101, 102], [111, 119, 110, 101, 114], [119, 97, 105, 116], [97, 98, 111, 114, 116], [99, 108, 111, 115, 101, 100], [100, 101, 101, 112], [109, 101, 116, 104, 111, 100]]
theorem w_impl_codeWords  (r : (List Str)) (hf : impl_codeWords = some r) : CallOK Try.prog 221 .fresh [] (.lst 1 (r.map AV.str)) := by
  refine CallOK.of_awp mixed Try.func221 fc221 nle ?_
  rw [argT_eq]
  unfold impl_codeWords at hf
  unfold c221
  refine (show awp Try.prog true 0 _ (ofL []) [] _ from ?_)
  refine awp_seq ?_
  refine w_reg ?_
  refine s_do (o_mov .nil rfl) ?_
  refine w_done ?_
  refine k_seq ?_
  refine awp_seq ?_
  refine w_reg ?_
  refine s_do (o_bslice (j := 0) (as' := [(.str [111, 107]), (.str [98, 97, 100]), (.str [108, 111, 110, 103]), (.str [102, 111, 114, 109]), (.str [114, 97, 110, 103, 101]), (.str [110, 111, 110, 101]), (.str [109, 97, 110, 121]), (.str [102, 117, 108, 108]), (.str [116, 119, 105, 99, 101]), (.str [116, 121, 112, 101]), (.str [116, 97, 98, 108, 101]), (.str [99, 111, 108, 117, 109, 110]), (.str [117, 110, 105, 113, 117, 101]), (.str [114, 101, 102]), (.str [111, 119, 110, 101, 114]), (.str [119, 97, 105, 116]), (.str [97, 98, 111, 114, 116]), (.str [99, 108, 111, 115, 101, 100]), (.str [100, 101, 101, 112]), (.str [109, 101, 116, 104, 111, 100])]) rfl (fun _ => by decide) ⟨rfl, ⟨rfl, ⟨rfl, ⟨rfl, ⟨rfl, ⟨rfl, ⟨rfl, ⟨rfl, ⟨rfl, ⟨rfl, ⟨rfl, ⟨rfl, ⟨rfl, ⟨rfl, ⟨rfl, ⟨rfl, ⟨rfl, ⟨rfl, ⟨rfl, ⟨rfl, trivial⟩⟩⟩⟩⟩⟩⟩⟩⟩⟩⟩⟩⟩⟩⟩⟩⟩⟩⟩⟩ (.refl _) rfl rfl rfl) ?_
  refine s_do (o_mov (.own 0 0 20) rfl) ?_
  refine w_done ?_
  refine k_seq ?_
  refine w_ret ?_
  obtain rfl := os hf
  exact r_fresh ⟨trivial, trivial⟩ rfl (by decide) (.refl _)

/- impl.CodeWord -/
def c193 : ACode :=
 (.seq (.reg (tm 2 (.c (.str [])) .done))
 (.seq (.seq (.reg (tm 3 (.t 0) (tq 4 (.call 86 [(.t 3), (.c (.int .i64 0)), (.c (.int .i64 19))]) (tq 5 (.not (.t 4)) .done))))
 (.cond (.t 5) (.seq (.reg (tm 2 (.c (.str [])) .done))
 .ret)
 .skip))
 (.seq (.reg (tq 6 (.call 221 []) (tm 7 (.t 0) (tq 8 (.iaddr 1 (.t 6) (.t 7)) (tq 9 (.load 1 false (.t 8)) (tm 2 (.t 9) .done))))))
 .ret)))
theorem fc193 : fcomp Try.prog Try.f193 = some (c193.erase, [.mov (.t 2)], 10) := by kernel_rfl
def impl_CodeWord (code_1 : Int) : Option Str :=
    (impl_within code_1 0 19).bind fun r_2 =>
    if (!r_2) then
    some []
    else
    (impl_codeWords).bind fun r_5 =>
    (idx r_5 code_1).bind fun x_7 =>
    some x_7
theorem w_impl_CodeWord (code_1 : Int) (r : Str) (hf : impl_CodeWord code_1 = some r) : CallOK Try.prog 193 .flat [(.int .i64 code_1)] (.str r) := by
 refine CallOK.of_awp mixed Try.func193 fc193 nle ?_; rw [argT_eq]; unfold impl_CodeWord at hf; unfold c193; refine (show awp Try.prog false 0 _ (ofL [(0, (.int .i64 code_1))]) [] _ from ?_); refine awp_seq <| w_reg <| s_mov (.str []) rfl <| w_done <| k_seq <| awp_seq <| awp_seq <| w_reg <| ?_
 obtain ⟨r_2, er3, hf⟩ := ob hf
 refine s_mov (.int .i64 code_1) rfl <| s_do (o_call (w_impl_within _ _ _ _ er3) rfl (.refl _) rfl) <| s_q (.bool (!r_2)) rfl trivial rfl <| w_done <| k_seq <| ?_
 rcases oi hf with ⟨c4, hf⟩ | ⟨c4, hf⟩
 ·refine w_condt rfl c4 <| awp_seq <| w_reg <| s_mov (.str []) rfl <| w_done <| k_seq <| w_ret <| ?_; obtain rfl := os hf; exact r_flat ⟨trivial, trivial⟩ rfl (.refl _)
 ·refine w_condf rfl (bf c4) <| w_skip <| k_seq <| awp_seq <| w_reg <| ?_
  obtain ⟨r_5, er6, hf⟩ := ob hf
  obtain ⟨x_7, ex8, hf⟩ := ob hf
  refine s_do (o_callc rfl (w_impl_codeWords _ er6) rfl (.refl _) rfl) <| s_mov (.int .i64 code_1) rfl <| s_do (o_iaddr (enc := AV.str) rfl rfl (idx0 ex8) (idx1 ex8)) <| s_q (.str x_7) rfl ⟨rfl, rfl⟩ rfl <| s_mov (.str x_7) rfl <| w_done <| k_seq <| w_ret <| ?_; obtain rfl := os hf; exact r_flat ⟨trivial, trivial⟩ rfl (.refl _)

/- impl.jsText -/
def c177 : ACode :=
 (.seq (.reg (tq 2 (.box 5 (.c (.agg [(.int .i64 0), (.int .i64 0), (.str []), .nil, .nil]))) .done))
 (.seq (.reg (tm 3 (.t 0) (tq 4 (.build [(.int .i64 0), (.int .i64 0), (.str []), .nil, .nil] [(0, 1, (.c (.int .i64 3))), (2, 1, (.t 3))]) (.q ⟨none, none, .store 5 (.t 2) (.t 4)⟩
 .done))))
 .ret))
theorem fc177 : fcomp Try.prog Try.f177 = some (c177.erase, [.load 5 true (.t 2)], 5) := by kernel_rfl
def impl_jsText (t_1 : Str) : Option GJson :=
    some (⟨3, 0, t_1, [], []⟩ : GJson)
theorem w_impl_jsText (t_1 : Str) (r : GJson) (hf : impl_jsText t_1 = some r) : CallOK Try.prog 177 .fresh [(.str t_1)] (encGJson r) := by
  refine CallOK.of_awp mixed Try.func177 fc177 nle ?_
  rw [argT_eq]
  unfold impl_jsText at hf
  unfold c177
  refine (show awp Try.prog true 0 _ (ofL [(0, (.str t_1))]) [] _ from ?_)
  refine awp_seq ?_
  refine w_reg ?_
  refine s_do (o_box (j := 0) (c := (.agg [(.int .i64 0), (.int .i64 0), (.str []), .nil, .nil])) rfl trivial rfl rfl) ?_
  refine w_done ?_
  refine k_seq ?_
  refine awp_seq ?_
  refine w_reg ?_
  refine s_do (o_mov (.str t_1) rfl) ?_
  refine s_do (o_q (.agg [(.int .i64 3), (.int .i64 0), (.str t_1), .nil, .nil]) rfl ⟨⟨rfl, nle, trivial⟩, ⟨⟨rfl, nle, trivial⟩, trivial⟩⟩ rfl) ?_
  refine s_do0 (o_storebox (v := (.agg [(.int .i64 3), (.int .i64 0), (.str t_1), .nil, .nil])) (y' := (.agg [(.int .i64 3), (.int .i64 0), (.str t_1), .nil, .nil])) rfl rfl rfl trivial ⟨rfl, nle⟩ ⟨⟨rfl, trivial⟩, ⟨⟨rfl, trivial⟩, ⟨⟨rfl, trivial⟩, ⟨⟨rfl, trivial⟩, ⟨⟨rfl, trivial⟩, trivial⟩⟩⟩⟩⟩ rfl) ?_
  refine w_done ?_
  refine k_seq ?_
  refine w_ret ?_
  obtain rfl := os hf
  exact r_fresh ⟨nle, trivial⟩ rfl (by decide) (leJ (x := (⟨3, 0, t_1, [], []⟩ : GJson)) (.agg (.cons (.refl _) (.cons (.refl _) (.cons (.refl _) (.cons (.nil _) (.cons (.nil _) .nil)))))))

/- impl.jsNumber -/
def c176 : ACode :=
 (.seq (.reg (tq 2 (.box 5 (.c (.agg [(.int .i64 0), (.int .i64 0), (.str []), .nil, .nil]))) .done))
 (.seq (.reg (tm 3 (.t 0) (tq 4 (.build [(.int .i64 0), (.int .i64 0), (.str []), .nil, .nil] [(0, 1, (.c (.int .i64 2))), (1, 1, (.t 3))]) (.q ⟨none, none, .store 5 (.t 2) (.t 4)⟩
 .done))))
 .ret))
theorem fc176 : fcomp Try.prog Try.f176 = some (c176.erase, [.load 5 true (.t 2)], 5) := by kernel_rfl
def impl_jsNumber (n_1 : Int) : Option GJson :=
    some (⟨2, n_1, [], [], []⟩ : GJson)
theorem w_impl_jsNumber (n_1 : Int) (r : GJson) (hf : impl_jsNumber n_1 = some r) : CallOK Try.prog 176 .fresh [(.int .i64 n_1)] (encGJson r) := by
  refine CallOK.of_awp mixed Try.func176 fc176 nle ?_
  rw [argT_eq]
  unfold impl_jsNumber at hf
  unfold c176
  refine (show awp Try.prog true 0 _ (ofL [(0, (.int .i64 n_1))]) [] _ from ?_)
  refine awp_seq ?_
  refine w_reg ?_
  refine s_do (o_box (j := 0) (c := (.agg [(.int .i64 0), (.int .i64 0), (.str []), .nil, .nil])) rfl trivial rfl rfl) ?_
  refine w_done ?_
  refine k_seq ?_
  refine awp_seq ?_
  refine w_reg ?_
  refine s_do (o_mov (.int .i64 n_1) rfl) ?_
  refine s_do (o_q (.agg [(.int .i64 2), (.int .i64 n_1), (.str []), .nil, .nil]) rfl ⟨⟨rfl, nle, trivial⟩, ⟨⟨rfl, nle, trivial⟩, trivial⟩⟩ rfl) ?_
  refine s_do0 (o_storebox (v := (.agg [(.int .i64 2), (.int .i64 n_1), (.str []), .nil, .nil])) (y' := (.agg [(.int .i64 2), (.int .i64 n_1), (.str []), .nil, .nil])) rfl rfl rfl trivial ⟨rfl, nle⟩ ⟨⟨rfl, trivial⟩, ⟨⟨rfl, trivial⟩, ⟨⟨rfl, trivial⟩, ⟨⟨rfl, trivial⟩, ⟨⟨rfl, trivial⟩, trivial⟩⟩⟩⟩⟩ rfl) ?_
  refine w_done ?_
  refine k_seq ?_
  refine w_ret ?_
  obtain rfl := os hf
  exact r_fresh ⟨nle, trivial⟩ rfl (by decide) (leJ (x := (⟨2, n_1, [], [], []⟩ : GJson)) (.agg (.cons (.refl _) (.cons (.refl _) (.cons (.refl _) (.cons (.nil _) (.cons (.nil _) .nil)))))))

/- impl.jsObject -/
def c194 : ACode :=
 (.seq (.reg (tq 4 (.box 5 (.c (.agg [(.int .i64 0), (.int .i64 0), (.str []), .nil, .nil]))) .done))
 (.seq (.reg (tm 5 (.t 0) (tm 6 (.t 1) (tq 7 (.build [(.int .i64 0), (.int .i64 0), (.str []), .nil, .nil] [(0, 1, (.c (.int .i64 5))), (3, 1, (.t 5)), (4, 1, (.t 6))]) (.q ⟨none, none, .store 5 (.t 4) (.t 7)⟩
 .done)))))
 .ret))
theorem fc194 : fcomp Try.prog Try.f194 = some (c194.erase, [.load 5 true (.t 4)], 8) := by kernel_rfl
def impl_jsObject (keys_1 : (List Str)) (items_2 : (List GJson)) : Option GJson :=
    some (⟨5, 0, [], keys_1, items_2⟩ : GJson)
theorem w_impl_jsObject (keys_1 : (List Str)) (items_2 : (List GJson)) (r : GJson) (hf : impl_jsObject keys_1 items_2 = some r) : CallOK Try.prog 194 .weak [(.lst 1 (keys_1.map AV.str)), (.lst 5 (items_2.map encGJson))] (encGJson r) := by
 refine CallOK.of_awp mixed Try.func194 fc194 nle ?_; rw [argT_eq]; unfold impl_jsObject at hf; unfold c194; refine (show awp Try.prog false 0 _ (ofL [(0, (.lst 1 (keys_1.map AV.str))), (1, (.lst 5 (items_2.map encGJson)))]) [] _ from ?_); refine awp_seq <| w_reg <| s_do (o_box (j := 0) (c := (.agg [(.int .i64 0), (.int .i64 0), (.str []), .nil, .nil])) rfl trivial rfl rfl) <| w_done <| k_seq <| awp_seq <| w_reg <| s_mov (.lst 1 (keys_1.map AV.str)) rfl <| s_mov (.lst 5 (items_2.map encGJson)) rfl <| s_q (.agg [(.int .i64 5), (.int .i64 0), (.str []), (.lst 1 (keys_1.map AV.str)), (.lst 5 (items_2.map encGJson))]) rfl ⟨⟨rfl, nle, trivial⟩, ⟨⟨rfl, nle, trivial⟩, ⟨⟨rfl, nle, trivial⟩, trivial⟩⟩⟩ rfl <| s_do0 (o_storebox (v := (.agg [(.int .i64 5), (.int .i64 0), (.str []), (.lst 1 (keys_1.map AV.str)), (.lst 5 (items_2.map encGJson))])) (y' := (.agg [(.int .i64 5), (.int .i64 0), (.str []), (.lst 1 (keys_1.map AV.str)), (.lst 5 (items_2.map encGJson))])) rfl rfl rfl trivial ⟨rfl, nle⟩ ⟨⟨rfl, trivial⟩, ⟨⟨rfl, trivial⟩, ⟨⟨rfl, trivial⟩, ⟨⟨rfl, trivial⟩, ⟨⟨rfl, trivial⟩, trivial⟩⟩⟩⟩⟩ rfl) <| ?_
 refine w_done <| k_seq <| w_ret <| ?_; obtain rfl := os hf; exact r_weak ⟨nle, trivial⟩ rfl (.of_eq (encGJson_eq (⟨5, 0, [], keys_1, items_2⟩ : GJson)).symm)

/- impl.replyJson -/
def c140 : ACode :=
 (.seq (.reg (tq 5 (.box 5 (.t 2)) (tq 6 (.box 5 (.c (.agg [(.int .i64 0), (.int .i64 0), (.str []), .nil, .nil]))) .done)))
 (.seq (.reg (tq 8 (.build [(.int .i64 0), (.int .i64 0), (.str []), .nil, .nil] []) (tq 7 (.box 5 (.c (.agg [(.int .i64 0), (.int .i64 0), (.str []), .nil, .nil]))) (.q ⟨none, none, .store 5 (.t 7) (.t 8)⟩
 .done))))
 (.seq (.seq (.reg (tm 9 (.t 1) (tq 10 (.bin .neq (.t 9) (.c (.int .i64 0))) .done)))
 (.cond (.t 10) (.reg (tm 11 (.t 1) (tq 12 (.call 193 [(.t 11)]) (tq 13 (.call 177 [(.t 12)]) (tq 14 (.build [(.int .i64 0), (.int .i64 0), (.str []), .nil, .nil] []) (.q ⟨none, none, .store 5 (.t 7) (.t 13)⟩
 (.q ⟨none, none, .store 5 (.t 5) (.t 14)⟩
 .done)))))))
 .skip))
 (.cut (.seq (.reg (tq 16 (.load 5 true (.t 7)) (tm 17 (.t 0) (tq 19 (.load 5 true (.t 5)) (.l ⟨(some 15), none, .bslice 1 [(.c (.str [101, 114, 114, 111, 114])), (.c (.str [105, 100])), (.c (.str [114, 101, 115, 117, 108, 116]))]⟩ [⟨(some 19), none, .load 5 true (.t 5)⟩, ⟨(some 16), none, .load 5 true (.t 7)⟩]
 (.l ⟨(some 18), none, .call 176 [(.t 17)]⟩ [⟨(some 19), none, .load 5 true (.t 5)⟩, ⟨(some 16), none, .load 5 true (.t 7)⟩]
 (.l ⟨(some 20), none, .bslice 5 [(.t 16), (.t 18), (.t 19)]⟩ []
 (.l ⟨(some 21), none, .call 194 [(.t 15), (.t 20)]⟩ []
 (.l ⟨none, none, .store 5 (.t 6) (.t 21)⟩ []
 .done .non) .non) .non) .non) (.l ⟨(some 18), none, .call 176 [(.t 17)]⟩ [⟨(some 19), none, .load 5 true (.t 5)⟩, ⟨(some 16), none, .load 5 true (.t 7)⟩]
 (.l ⟨(some 15), none, .bslice 1 [(.c (.str [101, 114, 114, 111, 114])), (.c (.str [105, 100])), (.c (.str [114, 101, 115, 117, 108, 116]))]⟩ [⟨(some 19), none, .load 5 true (.t 5)⟩, ⟨(some 16), none, .load 5 true (.t 7)⟩]
 (.l ⟨(some 20), none, .bslice 5 [(.t 16), (.t 18), (.t 19)]⟩ []
 (.l ⟨(some 21), none, .call 194 [(.t 15), (.t 20)]⟩ []
 (.l ⟨none, none, .store 5 (.t 6) (.t 21)⟩ []
 .done .non) .non) .non) (.l ⟨(some 20), none, .bslice 5 [(.t 16), (.t 18), (.t 19)]⟩ []
 (.l ⟨(some 15), none, .bslice 1 [(.c (.str [101, 114, 114, 111, 114])), (.c (.str [105, 100])), (.c (.str [114, 101, 115, 117, 108, 116]))]⟩ [⟨(some 19), none, .load 5 true (.t 5)⟩, ⟨(some 16), none, .load 5 true (.t 7)⟩]
 (.l ⟨(some 21), none, .call 194 [(.t 15), (.t 20)]⟩ []
 (.l ⟨none, none, .store 5 (.t 6) (.t 21)⟩ []
 .done .non) .non) .non) .non)) .non))))))
 .ret)))))
theorem fc140 : fcomp Try.prog Try.f140 = some (c140.erase, [.load 5 true (.t 6)], 22) := by kernel_rfl
def impl_replyJson (id_1 : Int) (code_2 : Int) (result_3 : GJson) : Option GJson :=
    ((if (code_2 != 0) then
    (impl_CodeWord code_2).bind fun r_21 =>
    (impl_jsText r_21).bind fun r_23 =>
    some (0, 0, [], [], [], r_23.Kind, r_23.N, r_23.T, r_23.Keys, r_23.Items)
    else
    some (result_3.Kind, result_3.N, result_3.T, result_3.Keys, result_3.Items, 0, 0, [], [], []) : Option (Int × Int × Str × (List Str) × (List GJson) × Int × Int × Str × (List Str) × (List GJson)))).bind fun p19 =>
    (match p19 with
    | (x_9, x_10, x_11, x_12, x_13, x_14, x_15, x_16, x_17, x_18) =>
    (impl_jsNumber id_1).bind fun r_25 =>
    (impl_jsObject [[101, 114, 114, 111, 114], [105, 100], [114, 101, 115, 117, 108, 116]] [(⟨x_14, x_15, x_16, x_17, x_18⟩ : GJson), r_25, (⟨x_9, x_10, x_11, x_12, x_13⟩ : GJson)]).bind fun r_27 =>
    some r_27)
theorem w_impl_replyJson (id_1 : Int) (code_2 : Int) (result_3 : GJson) (r : GJson) (hf : impl_replyJson id_1 code_2 result_3 = some r) : CallOK Try.prog 140 .weak [(.int .i64 id_1), (.int .i64 code_2), (encGJson result_3)] (encGJson r) := by
 refine CallOK.of_awp mixed Try.func140 fc140 nle ?_; rw [argT_eq]; rw [encGJson_eq result_3]; unfold impl_replyJson at hf; unfold c140; refine (show awp Try.prog false 0 _ (ofL [(0, (.int .i64 id_1)), (1, (.int .i64 code_2)), (2, (.agg [(.int .i64 result_3.Kind), (.int .i64 result_3.N), (.str result_3.T), (.lst 1 (result_3.Keys.map AV.str)), (.lst 5 (result_3.Items.map encGJson))]))]) [] _ from ?_); refine awp_seq <| w_reg <| s_do (o_box (j := 0) (c := (.agg [(.int .i64 result_3.Kind), (.int .i64 result_3.N), (.str result_3.T), (.lst 1 (result_3.Keys.map AV.str)), (.lst 5 (result_3.Items.map encGJson))])) rfl trivial rfl rfl) <| s_do (o_box (j := 1) (c := (.agg [(.int .i64 0), (.int .i64 0), (.str []), .nil, .nil])) rfl trivial rfl rfl) <| ?_
 refine w_done <| k_seq <| awp_seq <| w_reg <| s_q (.agg [(.int .i64 0), (.int .i64 0), (.str []), .nil, .nil]) rfl trivial rfl <| s_do (o_box (j := 2) (c := (.agg [(.int .i64 0), (.int .i64 0), (.str []), .nil, .nil])) rfl trivial rfl rfl) <| s_do0 (o_storebox (v := (.agg [(.int .i64 0), (.int .i64 0), (.str []), .nil, .nil])) (y' := (.agg [(.int .i64 0), (.int .i64 0), (.str []), .nil, .nil])) rfl rfl rfl trivial ⟨rfl, nle⟩ ⟨⟨rfl, trivial⟩, ⟨⟨rfl, trivial⟩, ⟨⟨rfl, trivial⟩, ⟨⟨rfl, trivial⟩, ⟨⟨rfl, trivial⟩, trivial⟩⟩⟩⟩⟩ rfl) <| w_done <| k_seq <| awp_seq <| ?_
 obtain ⟨p19, hb1, hf⟩ := ob hf
 refine awp_cut ([(0, (.int .i64 id_1)), (5, (.ptr 0 0 0)), (6, (.ptr 1 0 0)), (7, (.ptr 2 0 0))], [.box 5 (.agg [(.int .i64 p19.1), (.int .i64 p19.2.1), (.str p19.2.2.1), (.lst 1 (p19.2.2.2.1.map AV.str)), (.lst 5 (p19.2.2.2.2.1.map encGJson))]), .box 5 (.agg [(.int .i64 0), (.int .i64 0), (.str []), .nil, .nil]), .box 5 (.agg [(.int .i64 p19.2.2.2.2.2.1), (.int .i64 p19.2.2.2.2.2.2.1), (.str p19.2.2.2.2.2.2.2.1), (.lst 1 (p19.2.2.2.2.2.2.2.2.1.map AV.str)), (.lst 5 (p19.2.2.2.2.2.2.2.2.2.map encGJson))])]) ?_ ?_
 ·refine awp_seq <| w_reg <| s_mov (.int .i64 code_2) rfl <| s_q (.bool (code_2 != 0)) rfl rfl rfl <| w_done <| k_seq <| ?_
  rcases oi hb1 with ⟨c20, hb1⟩ | ⟨c20, hb1⟩
  ·refine w_condt rfl c20 <| w_reg <| ?_
   obtain ⟨r_21, er22, hb1⟩ := ob hb1
   obtain ⟨r_23, er24, hb1⟩ := ob hb1
   refine s_mov (.int .i64 code_2) rfl <| s_do (o_call (w_impl_CodeWord _ _ er22) rfl (.refl _) rfl) <| s_do (o_callc (v := (.agg [(.int .i64 r_23.Kind), (.int .i64 r_23.N), (.str r_23.T), (.lst 1 (r_23.Keys.map AV.str)), (.lst 5 (r_23.Items.map encGJson))])) rfl (w_impl_jsText _ _ er24) rfl (.refl _) (by simp only [encGJson_eq])) <| s_q (.agg [(.int .i64 0), (.int .i64 0), (.str []), .nil, .nil]) rfl trivial rfl <| s_do0 (o_storebox (v := (.agg [(.int .i64 r_23.Kind), (.int .i64 r_23.N), (.str r_23.T), (.lst 1 (r_23.Keys.map AV.str)), (.lst 5 (r_23.Items.map encGJson))])) (y' := (.agg [(.int .i64 r_23.Kind), (.int .i64 r_23.N), (.str r_23.T), (.lst 1 (r_23.Keys.map AV.str)), (.lst 5 (r_23.Items.map encGJson))])) rfl rfl rfl trivial ⟨rfl, nle⟩ ⟨⟨rfl, trivial⟩, ⟨⟨rfl, trivial⟩, ⟨⟨rfl, trivial⟩, ⟨⟨rfl, trivial⟩, ⟨⟨rfl, trivial⟩, trivial⟩⟩⟩⟩⟩ rfl) <| ?_
   refine s_do0 (o_storebox (v := (.agg [(.int .i64 0), (.int .i64 0), (.str []), .nil, .nil])) (y' := (.agg [(.int .i64 0), (.int .i64 0), (.str []), .nil, .nil])) rfl rfl rfl trivial ⟨rfl, nle⟩ ⟨⟨rfl, trivial⟩, ⟨⟨rfl, trivial⟩, ⟨⟨rfl, trivial⟩, ⟨⟨rfl, trivial⟩, ⟨⟨rfl, trivial⟩, trivial⟩⟩⟩⟩⟩ rfl) <| w_done <| ?_; obtain rfl := os hb1; exact ⟨[], [0, 1, 2], _, _, rfl, rfl, ⟨.refl _, ⟨.refl _, ⟨.refl _, ⟨.refl _, trivial⟩⟩⟩⟩, (.cons (.box (.agg (.cons (.refl _) (.cons (.refl _) (.cons (.refl _) (.cons (.nil _) (.cons (.nil _) .nil))))))) (.cons (.refl _) (.cons (.refl _) .nil)))⟩
  ·refine w_condf rfl (bf c20) <| w_skip <| ?_; obtain rfl := os hb1; exact ⟨[], [0, 1, 2], _, _, rfl, rfl, ⟨.refl _, ⟨.refl _, ⟨.refl _, ⟨.refl _, trivial⟩⟩⟩⟩, (.cons (.refl _) (.cons (.refl _) (.cons (.box (.agg (.cons (.refl _) (.cons (.refl _) (.cons (.refl _) (.cons (.nil _) (.cons (.nil _) .nil))))))) .nil)))⟩
 ·obtain ⟨x_9, x_10, x_11, x_12, x_13, x_14, x_15, x_16, x_17, x_18⟩ := p19
  refine awp_seq <| w_reg <| ?_
  obtain ⟨r_25, er26, hf⟩ := ob hf
  obtain ⟨r_27, er28, hf⟩ := ob hf
  refine s_q (.agg [(.int .i64 x_14), (.int .i64 x_15), (.str x_16), (.lst 1 (x_17.map AV.str)), (.lst 5 (x_18.map encGJson))]) rfl nle rfl <| s_mov (.int .i64 id_1) rfl <| s_q (.agg [(.int .i64 x_9), (.int .i64 x_10), (.str x_11), (.lst 1 (x_12.map AV.str)), (.lst 5 (x_13.map encGJson))]) rfl nle rfl <| ?_; refine s_dol (o_bslice (j := 3) (as' := [(.str [101, 114, 114, 111, 114]), (.str [105, 100]), (.str [114, 101, 115, 117, 108, 116])]) rfl (fun _ => by decide) ⟨rfl, ⟨rfl, ⟨rfl, trivial⟩⟩⟩ (.refl _) rfl rfl rfl) (.inr ⟨⟨nle, rfl⟩, ⟨⟨nle, rfl⟩, trivial⟩⟩) ?_ ?_
  ·refine s_dol (o_callc (v := (.agg [(.int .i64 r_25.Kind), (.int .i64 r_25.N), (.str r_25.T), (.lst 1 (r_25.Keys.map AV.str)), (.lst 5 (r_25.Items.map encGJson))])) rfl (w_impl_jsNumber _ _ er26) rfl (.refl _) (by simp only [encGJson_eq])) a_same trivial ?_; refine s_dol (o_bslice (j := 3) (as' := [(.str [101, 114, 114, 111, 114]), (.str [105, 100]), (.str [114, 101, 115, 117, 108, 116])]) rfl (fun _ => by decide) ⟨rfl, ⟨rfl, ⟨rfl, trivial⟩⟩⟩ (.refl _) rfl rfl rfl) (.inr ⟨⟨nle, rfl⟩, ⟨⟨nle, rfl⟩, trivial⟩⟩) ?_ ?_
   ·refine s_dol (o_bslice (j := 3) (as' := [(encGJson (⟨x_14, x_15, x_16, x_17, x_18⟩ : GJson)), (encGJson r_25), (encGJson (⟨x_9, x_10, x_11, x_12, x_13⟩ : GJson))]) rfl (fun _ => by decide) ⟨rfl, ⟨rfl, ⟨rfl, trivial⟩⟩⟩ (.cons (.of_eq (encGJson_eq (⟨x_14, x_15, x_16, x_17, x_18⟩ : GJson)).symm) (.cons (.of_eq (encGJson_eq r_25).symm) (.cons (.of_eq (encGJson_eq (⟨x_9, x_10, x_11, x_12, x_13⟩ : GJson)).symm) .nil))) rfl rfl rfl) trivial trivial ?_; refine s_dol (o_bslice (j := 4) (as' := [(.str [101, 114, 114, 111, 114]), (.str [105, 100]), (.str [114, 101, 115, 117, 108, 116])]) rfl (fun _ => by decide) ⟨rfl, ⟨rfl, ⟨rfl, trivial⟩⟩⟩ (.refl _) rfl rfl rfl) (.inr ⟨⟨nle, rfl⟩, ⟨⟨nle, rfl⟩, trivial⟩⟩) trivial ?_
    refine s_dol (o_callw (v := (.agg [(.int .i64 r_27.Kind), (.int .i64 r_27.N), (.str r_27.T), (.lst 1 (r_27.Keys.map AV.str)), (.lst 5 (r_27.Items.map encGJson))])) rfl (w_impl_jsObject _ _ _ er28) rfl (.cons (.of_eq (congrArg (AV.lst _) (tko [[101, 114, 114, 111, 114], [105, 100], [114, 101, 115, 117, 108, 116]]))) (.cons (.of_eq (congrArg (AV.lst _) (tko [(⟨x_14, x_15, x_16, x_17, x_18⟩ : GJson), r_25, (⟨x_9, x_10, x_11, x_12, x_13⟩ : GJson)]))) .nil)) (by simp only [encGJson_eq]) rfl) trivial trivial <| s_dol0 (o_storebox (v := (.agg [(.int .i64 r_27.Kind), (.int .i64 r_27.N), (.str r_27.T), (.lst 1 (r_27.Keys.map AV.str)), (.lst 5 (r_27.Items.map encGJson))])) (y' := (.agg [(.int .i64 r_27.Kind), (.int .i64 r_27.N), (.str r_27.T), (.lst 1 (r_27.Keys.map AV.str)), (.lst 5 (r_27.Items.map encGJson))])) rfl rfl rfl trivial ⟨rfl, nle⟩ ⟨⟨rfl, trivial⟩, ⟨⟨rfl, trivial⟩, ⟨⟨rfl, trivial⟩, ⟨⟨rfl, trivial⟩, ⟨⟨rfl, trivial⟩, trivial⟩⟩⟩⟩⟩ rfl) trivial trivial <| ?_
    refine w_done <| k_seq <| w_ret <| ?_; obtain rfl := os hf; exact r_weak ⟨nle, trivial⟩ rfl (.of_eq (encGJson_eq r_27).symm)
   ·refine s_dol (o_bslice (j := 4) (as' := [(encGJson (⟨x_14, x_15, x_16, x_17, x_18⟩ : GJson)), (encGJson r_25), (encGJson (⟨x_9, x_10, x_11, x_12, x_13⟩ : GJson))]) rfl (fun _ => by decide) ⟨rfl, ⟨rfl, ⟨rfl, trivial⟩⟩⟩ (.cons (.of_eq (encGJson_eq (⟨x_14, x_15, x_16, x_17, x_18⟩ : GJson)).symm) (.cons (.of_eq (encGJson_eq r_25).symm) (.cons (.of_eq (encGJson_eq (⟨x_9, x_10, x_11, x_12, x_13⟩ : GJson)).symm) .nil))) rfl rfl rfl) trivial trivial ?_; refine s_dol (o_callw (v := (.agg [(.int .i64 r_27.Kind), (.int .i64 r_27.N), (.str r_27.T), (.lst 1 (r_27.Keys.map AV.str)), (.lst 5 (r_27.Items.map encGJson))])) rfl (w_impl_jsObject _ _ _ er28) rfl (.cons (.of_eq (congrArg (AV.lst _) (tko [[101, 114, 114, 111, 114], [105, 100], [114, 101, 115, 117, 108, 116]]))) (.cons (.of_eq (congrArg (AV.lst _) (tko [(⟨x_14, x_15, x_16, x_17, x_18⟩ : GJson), r_25, (⟨x_9, x_10, x_11, x_12, x_13⟩ : GJson)]))) .nil)) (by simp only [encGJson_eq]) rfl) trivial trivial ?_
    refine s_dol0 (o_storebox (v := (.agg [(.int .i64 r_27.Kind), (.int .i64 r_27.N), (.str r_27.T), (.lst 1 (r_27.Keys.map AV.str)), (.lst 5 (r_27.Items.map encGJson))])) (y' := (.agg [(.int .i64 r_27.Kind), (.int .i64 r_27.N), (.str r_27.T), (.lst 1 (r_27.Keys.map AV.str)), (.lst 5 (r_27.Items.map encGJson))])) rfl rfl rfl trivial ⟨rfl, nle⟩ ⟨⟨rfl, trivial⟩, ⟨⟨rfl, trivial⟩, ⟨⟨rfl, trivial⟩, ⟨⟨rfl, trivial⟩, ⟨⟨rfl, trivial⟩, trivial⟩⟩⟩⟩⟩ rfl) trivial trivial <| w_done <| k_seq <| w_ret <| ?_; obtain rfl := os hf; exact r_weak ⟨nle, trivial⟩ rfl (.of_eq (encGJson_eq r_27).symm)
  ·refine s_dol (o_callc (v := (.agg [(.int .i64 r_25.Kind), (.int .i64 r_25.N), (.str r_25.T), (.lst 1 (r_25.Keys.map AV.str)), (.lst 5 (r_25.Items.map encGJson))])) rfl (w_impl_jsNumber _ _ er26) rfl (.refl _) (by simp only [encGJson_eq])) a_same trivial ?_; refine s_dol (o_bslice (j := 4) (as' := [(encGJson (⟨x_14, x_15, x_16, x_17, x_18⟩ : GJson)), (encGJson r_25), (encGJson (⟨x_9, x_10, x_11, x_12, x_13⟩ : GJson))]) rfl (fun _ => by decide) ⟨rfl, ⟨rfl, ⟨rfl, trivial⟩⟩⟩ (.cons (.of_eq (encGJson_eq (⟨x_14, x_15, x_16, x_17, x_18⟩ : GJson)).symm) (.cons (.of_eq (encGJson_eq r_25).symm) (.cons (.of_eq (encGJson_eq (⟨x_9, x_10, x_11, x_12, x_13⟩ : GJson)).symm) .nil))) rfl rfl rfl) trivial trivial ?_; refine s_dol (o_callw (v := (.agg [(.int .i64 r_27.Kind), (.int .i64 r_27.N), (.str r_27.T), (.lst 1 (r_27.Keys.map AV.str)), (.lst 5 (r_27.Items.map encGJson))])) rfl (w_impl_jsObject _ _ _ er28) rfl (.cons (.of_eq (congrArg (AV.lst _) (tko [[101, 114, 114, 111, 114], [105, 100], [114, 101, 115, 117, 108, 116]]))) (.cons (.of_eq (congrArg (AV.lst _) (tko [(⟨x_14, x_15, x_16, x_17, x_18⟩ : GJson), r_25, (⟨x_9, x_10, x_11, x_12, x_13⟩ : GJson)]))) .nil)) (by simp only [encGJson_eq]) rfl) trivial trivial ?_
   refine s_dol0 (o_storebox (v := (.agg [(.int .i64 r_27.Kind), (.int .i64 r_27.N), (.str r_27.T), (.lst 1 (r_27.Keys.map AV.str)), (.lst 5 (r_27.Items.map encGJson))])) (y' := (.agg [(.int .i64 r_27.Kind), (.int .i64 r_27.N), (.str r_27.T), (.lst 1 (r_27.Keys.map AV.str)), (.lst 5 (r_27.Items.map encGJson))])) rfl rfl rfl trivial ⟨rfl, nle⟩ ⟨⟨rfl, trivial⟩, ⟨⟨rfl, trivial⟩, ⟨⟨rfl, trivial⟩, ⟨⟨rfl, trivial⟩, ⟨⟨rfl, trivial⟩, trivial⟩⟩⟩⟩⟩ rfl) trivial trivial <| w_done <| k_seq <| w_ret <| ?_; obtain rfl := os hf; exact r_weak ⟨nle, trivial⟩ rfl (.of_eq (encGJson_eq r_27).symm)

/- impl.jsObject -/
def c194_h0 : ACode :=
 (.seq (.reg (tq 4 (.box 5 (.c (.agg [(.int .i64 0), (.int .i64 0), (.str []), .nil, .nil]))) .done))
 (.seq (.reg (tm 5 (.t 0) (tm 6 (.t 1) (tq 7 (.build [(.int .i64 0), (.int .i64 0), (.str []), .nil, .nil] [(0, 1, (.c (.int .i64 5))), (3, 1, (.t 5)), (4, 1, (.t 6))]) (.q ⟨none, none, .store 5 (.t 4) (.t 7)⟩
 .done)))))
 .ret))
theorem fc194_h0 : fcomp Try.prog Try.f194 = some (c194_h0.erase, [.load 5 true (.t 4)], 8) := by kernel_rfl
def impl_jsObject_h0 (keys_1 : (List Str)) (items_2 : (List GJson)) : Option GJson :=
    some (⟨5, 0, [], keys_1, items_2⟩ : GJson)
theorem w_impl_jsObject_h0 (keys_1 : (List Str)) (items_2 : (List GJson)) (r : GJson) (hf : impl_jsObject_h0 keys_1 items_2 = some r) : CallHeap Try.prog true 194 [(.own 0 0 keys_1.length), (.own 1 0 items_2.length)] [.row 1 (keys_1.map AV.str), .row 5 (items_2.map encGJson)] (.agg [(.int .i64 r.Kind), (.int .i64 r.N), (.str r.T), (.own 2 0 r.Keys.length), (.own 3 0 r.Items.length)]) [.dead, .dead, .row 1 (r.Keys.map AV.str), .row 5 (r.Items.map encGJson)] := by
 refine CallHeap.of_awp mixed Try.func194 fc194_h0 nle ?_; rw [argT_eq]; unfold impl_jsObject_h0 at hf; unfold c194_h0; refine (show awp Try.prog true 2 _ (ofL [(0, (.own 0 0 keys_1.length)), (1, (.own 1 0 items_2.length))]) [.row 1 (keys_1.map AV.str), .row 5 (items_2.map encGJson)] _ from ?_); refine awp_seq <| w_reg <| s_do (o_box (j := 2) (c := (.agg [(.int .i64 0), (.int .i64 0), (.str []), .nil, .nil])) rfl trivial rfl rfl) <| w_done <| k_seq <| awp_seq <| w_reg <| s_mov (.own 0 0 keys_1.length) rfl <| s_mov (.own 1 0 items_2.length) rfl <| s_q (.agg [(.int .i64 5), (.int .i64 0), (.str []), (.own 0 0 keys_1.length), (.own 1 0 items_2.length)]) rfl ⟨⟨rfl, nle, trivial⟩, ⟨⟨rfl, nle, trivial⟩, ⟨⟨rfl, nle, trivial⟩, trivial⟩⟩⟩ rfl <| ?_
 refine s_do0 (o_storebox (v := (.agg [(.int .i64 5), (.int .i64 0), (.str []), (.own 0 0 keys_1.length), (.own 1 0 items_2.length)])) (y' := (.agg [(.int .i64 5), (.int .i64 0), (.str []), (.own 0 0 keys_1.length), (.own 1 0 items_2.length)])) rfl rfl rfl trivial ⟨rfl, nle⟩ ⟨⟨rfl, trivial⟩, ⟨⟨rfl, trivial⟩, ⟨⟨rfl, trivial⟩, ⟨⟨rfl, trivial⟩, ⟨⟨rfl, trivial⟩, trivial⟩⟩⟩⟩⟩ rfl) <| w_done <| k_seq <| w_ret <| ?_; obtain rfl := os hf; exact r_heap [.mv 0, .mv 1] [0, 1, 3, 4] rfl ⟨nle, trivial⟩ rfl (.refl _) (.refl _)

/- impl.replyJson -/
def c140_h0 : ACode :=
 (.seq (.reg (tq 5 (.box 5 (.t 2)) (tq 6 (.box 5 (.c (.agg [(.int .i64 0), (.int .i64 0), (.str []), .nil, .nil]))) .done)))
 (.seq (.reg (tq 8 (.build [(.int .i64 0), (.int .i64 0), (.str []), .nil, .nil] []) (tq 7 (.box 5 (.c (.agg [(.int .i64 0), (.int .i64 0), (.str []), .nil, .nil]))) (.q ⟨none, none, .store 5 (.t 7) (.t 8)⟩
 .done))))
 (.seq (.seq (.reg (tm 9 (.t 1) (tq 10 (.bin .neq (.t 9) (.c (.int .i64 0))) .done)))
 (.cond (.t 10) (.reg (tm 11 (.t 1) (tq 12 (.call 193 [(.t 11)]) (tq 13 (.call 177 [(.t 12)]) (tq 14 (.build [(.int .i64 0), (.int .i64 0), (.str []), .nil, .nil] []) (.q ⟨none, none, .store 5 (.t 7) (.t 13)⟩
 (.q ⟨none, none, .store 5 (.t 5) (.t 14)⟩
 .done)))))))
 .skip))
 (.cut (.seq (.reg (tq 16 (.load 5 true (.t 7)) (tm 17 (.t 0) (tq 19 (.load 5 true (.t 5)) (.l ⟨(some 15), none, .bslice 1 [(.c (.str [101, 114, 114, 111, 114])), (.c (.str [105, 100])), (.c (.str [114, 101, 115, 117, 108, 116]))]⟩ [⟨(some 19), none, .load 5 true (.t 5)⟩, ⟨(some 16), none, .load 5 true (.t 7)⟩]
 (.l ⟨(some 18), none, .call 176 [(.t 17)]⟩ [⟨(some 19), none, .load 5 true (.t 5)⟩, ⟨(some 16), none, .load 5 true (.t 7)⟩]
 (.l ⟨(some 20), none, .bslice 5 [(.t 16), (.t 18), (.t 19)]⟩ []
 (.l ⟨(some 21), none, .call 194 [(.t 15), (.t 20)]⟩ []
 (.l ⟨none, none, .store 5 (.t 6) (.t 21)⟩ []
 .done .non) .non) .non) .non) (.l ⟨(some 18), none, .call 176 [(.t 17)]⟩ [⟨(some 19), none, .load 5 true (.t 5)⟩, ⟨(some 16), none, .load 5 true (.t 7)⟩]
 (.l ⟨(some 15), none, .bslice 1 [(.c (.str [101, 114, 114, 111, 114])), (.c (.str [105, 100])), (.c (.str [114, 101, 115, 117, 108, 116]))]⟩ [⟨(some 19), none, .load 5 true (.t 5)⟩, ⟨(some 16), none, .load 5 true (.t 7)⟩]
 (.l ⟨(some 20), none, .bslice 5 [(.t 16), (.t 18), (.t 19)]⟩ []
 (.l ⟨(some 21), none, .call 194 [(.t 15), (.t 20)]⟩ []
 (.l ⟨none, none, .store 5 (.t 6) (.t 21)⟩ []
 .done .non) .non) .non) (.l ⟨(some 20), none, .bslice 5 [(.t 16), (.t 18), (.t 19)]⟩ []
 (.l ⟨(some 15), none, .bslice 1 [(.c (.str [101, 114, 114, 111, 114])), (.c (.str [105, 100])), (.c (.str [114, 101, 115, 117, 108, 116]))]⟩ [⟨(some 19), none, .load 5 true (.t 5)⟩, ⟨(some 16), none, .load 5 true (.t 7)⟩]
 (.l ⟨(some 21), none, .call 194 [(.t 15), (.t 20)]⟩ []
 (.l ⟨none, none, .store 5 (.t 6) (.t 21)⟩ []
 .done .non) .non) .non) .non)) .non))))))
 .ret)))))
theorem fc140_h0 : fcomp Try.prog Try.f140 = some (c140_h0.erase, [.load 5 true (.t 6)], 22) := by kernel_rfl
def impl_replyJson_h0 (id_1 : Int) (code_2 : Int) (c_3 : Int) (c_4 : Int) (c_5 : Str) (c_6 : (List Str)) (c_7 : (List GJson)) : Option GJson :=
    ((if (code_2 != 0) then
    (impl_CodeWord code_2).bind fun r_25 =>
    (impl_jsText r_25).bind fun r_27 =>
    some (0, 0, [], r_27.Kind, r_27.N, r_27.T, [], [], r_27.Keys, r_27.Items)
    else
    some (c_3, c_4, c_5, 0, 0, [], c_6, c_7, [], []) : Option (Int × Int × Str × Int × Int × Str × (List Str) × (List GJson) × (List Str) × (List GJson)))).bind fun p23 =>
    (match p23 with
    | (x_13, x_14, x_15, x_16, x_17, x_18, x_19, x_20, x_21, x_22) =>
    (impl_jsNumber id_1).bind fun r_29 =>
    (impl_jsObject_h0 [[101, 114, 114, 111, 114], [105, 100], [114, 101, 115, 117, 108, 116]] [(⟨x_16, x_17, x_18, x_21, x_22⟩ : GJson), r_29, (⟨x_13, x_14, x_15, x_19, x_20⟩ : GJson)]).bind fun r_31 =>
    some r_31)
theorem w_impl_replyJson_h0 (id_1 : Int) (code_2 : Int) (c_3 : Int) (c_4 : Int) (c_5 : Str) (c_6 : (List Str)) (c_7 : (List GJson)) (r : GJson) (hf : impl_replyJson_h0 id_1 code_2 c_3 c_4 c_5 c_6 c_7 = some r) : CallHeap Try.prog true 140 [(.int .i64 id_1), (.int .i64 code_2), (.agg [(.int .i64 c_3), (.int .i64 c_4), (.str c_5), (.own 0 0 c_6.length), (.own 1 0 c_7.length)])] [.row 1 (c_6.map AV.str), .row 5 (c_7.map encGJson)] (.agg [(.int .i64 r.Kind), (.int .i64 r.N), (.str r.T), (.own 2 0 r.Keys.length), (.own 3 0 r.Items.length)]) [.dead, .dead, .row 1 (r.Keys.map AV.str), .row 5 (r.Items.map encGJson)] := by
 refine CallHeap.of_awp mixed Try.func140 fc140_h0 nle ?_; rw [argT_eq]; unfold impl_replyJson_h0 at hf; unfold c140_h0; refine (show awp Try.prog true 2 _ (ofL [(0, (.int .i64 id_1)), (1, (.int .i64 code_2)), (2, (.agg [(.int .i64 c_3), (.int .i64 c_4), (.str c_5), (.own 0 0 c_6.length), (.own 1 0 c_7.length)]))]) [.row 1 (c_6.map AV.str), .row 5 (c_7.map encGJson)] _ from ?_); refine awp_seq <| w_reg <| s_do (o_box (j := 2) (c := (.agg [(.int .i64 c_3), (.int .i64 c_4), (.str c_5), (.own 0 0 c_6.length), (.own 1 0 c_7.length)])) rfl trivial rfl rfl) <| s_do (o_box (j := 3) (c := (.agg [(.int .i64 0), (.int .i64 0), (.str []), .nil, .nil])) rfl trivial rfl rfl) <| w_done <| k_seq <| awp_seq <| w_reg <| s_q (.agg [(.int .i64 0), (.int .i64 0), (.str []), .nil, .nil]) rfl trivial rfl <| ?_
 refine s_do (o_box (j := 4) (c := (.agg [(.int .i64 0), (.int .i64 0), (.str []), .nil, .nil])) rfl trivial rfl rfl) <| s_do0 (o_storebox (v := (.agg [(.int .i64 0), (.int .i64 0), (.str []), .nil, .nil])) (y' := (.agg [(.int .i64 0), (.int .i64 0), (.str []), .nil, .nil])) rfl rfl rfl trivial ⟨rfl, nle⟩ ⟨⟨rfl, trivial⟩, ⟨⟨rfl, trivial⟩, ⟨⟨rfl, trivial⟩, ⟨⟨rfl, trivial⟩, ⟨⟨rfl, trivial⟩, trivial⟩⟩⟩⟩⟩ rfl) <| w_done <| k_seq <| awp_seq <| ?_
 obtain ⟨p23, hb1, hf⟩ := ob hf
 refine awp_cut ([(0, (.int .i64 id_1)), (5, (.ptr 2 0 0)), (6, (.ptr 3 0 0)), (7, (.ptr 4 0 0))], [.dead, .dead, .box 5 (.agg [(.int .i64 p23.1), (.int .i64 p23.2.1), (.str p23.2.2.1), (.own 5 0 p23.2.2.2.2.2.2.1.length), (.own 6 0 p23.2.2.2.2.2.2.2.1.length)]), .box 5 (.agg [(.int .i64 0), (.int .i64 0), (.str []), .nil, .nil]), .box 5 (.agg [(.int .i64 p23.2.2.2.1), (.int .i64 p23.2.2.2.2.1), (.str p23.2.2.2.2.2.1), (.own 7 0 p23.2.2.2.2.2.2.2.2.1.length), (.own 8 0 p23.2.2.2.2.2.2.2.2.2.length)]), .row 1 (p23.2.2.2.2.2.2.1.map AV.str), .row 5 (p23.2.2.2.2.2.2.2.1.map encGJson), .row 1 (p23.2.2.2.2.2.2.2.2.1.map AV.str), .row 5 (p23.2.2.2.2.2.2.2.2.2.map encGJson)]) ?_ ?_
 ·refine awp_seq <| w_reg <| s_mov (.int .i64 code_2) rfl <| s_q (.bool (code_2 != 0)) rfl rfl rfl <| w_done <| k_seq <| ?_
  rcases oi hb1 with ⟨c24, hb1⟩ | ⟨c24, hb1⟩
  ·refine w_condt rfl c24 <| w_reg <| ?_
   obtain ⟨r_25, er26, hb1⟩ := ob hb1
   obtain ⟨r_27, er28, hb1⟩ := ob hb1
   refine s_mov (.int .i64 code_2) rfl <| s_do (o_call (w_impl_CodeWord _ _ er26) rfl (.refl _) rfl) <| s_do (o_callf (v := (.agg [(.int .i64 r_27.Kind), (.int .i64 r_27.N), (.str r_27.T), (.own 5 0 r_27.Keys.length), (.own 6 0 r_27.Items.length)])) (h' := [.row 1 (r_27.Keys.map AV.str), .row 5 (r_27.Items.map encGJson)]) (w_impl_jsText _ _ er28) rfl (.refl _) (by simp only [openV, openVs, List.length_map, encGJson_eq, List.nil_append, List.append_nil, List.cons_append]; rfl)) <| s_q (.agg [(.int .i64 0), (.int .i64 0), (.str []), .nil, .nil]) rfl trivial rfl <| s_do0 (o_storebox (v := (.agg [(.int .i64 r_27.Kind), (.int .i64 r_27.N), (.str r_27.T), (.own 5 0 r_27.Keys.length), (.own 6 0 r_27.Items.length)])) (y' := (.agg [(.int .i64 r_27.Kind), (.int .i64 r_27.N), (.str r_27.T), (.own 5 0 r_27.Keys.length), (.own 6 0 r_27.Items.length)])) rfl rfl rfl trivial ⟨rfl, nle⟩ ⟨⟨rfl, trivial⟩, ⟨⟨rfl, trivial⟩, ⟨⟨rfl, trivial⟩, ⟨⟨rfl, trivial⟩, ⟨⟨rfl, trivial⟩, trivial⟩⟩⟩⟩⟩ rfl) <| ?_
   refine s_do0 (o_storebox (v := (.agg [(.int .i64 0), (.int .i64 0), (.str []), .nil, .nil])) (y' := (.agg [(.int .i64 0), (.int .i64 0), (.str []), .nil, .nil])) rfl rfl rfl trivial ⟨rfl, nle⟩ ⟨⟨rfl, trivial⟩, ⟨⟨rfl, trivial⟩, ⟨⟨rfl, trivial⟩, ⟨⟨rfl, trivial⟩, ⟨⟨rfl, trivial⟩, trivial⟩⟩⟩⟩⟩ rfl) <| w_done <| ?_; obtain rfl := os hb1; exact ⟨[.nilC 2 3 1, .nilC 2 4 5, .kill 0, .kill 1], [0, 1, 2, 3, 4, 7, 8, 5, 6], _, _, rfl, rfl, ⟨.refl _, ⟨.refl _, ⟨.refl _, ⟨.refl _, trivial⟩⟩⟩⟩, (.refl _)⟩
  ·refine w_condf rfl (bf c24) <| w_skip <| ?_; obtain rfl := os hb1; exact ⟨[.mv 0, .mv 1, .nilC 4 3 1, .nilC 4 4 5], [0, 1, 2, 3, 4, 5, 6, 7, 8], _, _, rfl, rfl, ⟨.refl _, ⟨.refl _, ⟨.refl _, ⟨.refl _, trivial⟩⟩⟩⟩, (.refl _)⟩
 ·obtain ⟨x_13, x_14, x_15, x_16, x_17, x_18, x_19, x_20, x_21, x_22⟩ := p23
  refine awp_seq <| w_reg <| ?_
  obtain ⟨r_29, er30, hf⟩ := ob hf
  obtain ⟨r_31, er32, hf⟩ := ob hf
  refine s_q (.agg [(.int .i64 x_16), (.int .i64 x_17), (.str x_18), (.own 7 0 x_21.length), (.own 8 0 x_22.length)]) rfl nle rfl <| s_mov (.int .i64 id_1) rfl <| s_q (.agg [(.int .i64 x_13), (.int .i64 x_14), (.str x_15), (.own 5 0 x_19.length), (.own 6 0 x_20.length)]) rfl nle rfl <| ?_; refine s_dol (o_bslice (j := 9) (as' := [(.str [101, 114, 114, 111, 114]), (.str [105, 100]), (.str [114, 101, 115, 117, 108, 116])]) rfl (fun _ => by decide) ⟨rfl, ⟨rfl, ⟨rfl, trivial⟩⟩⟩ (.refl _) rfl rfl rfl) (.inr ⟨⟨nle, rfl⟩, ⟨⟨nle, rfl⟩, trivial⟩⟩) ?_ ?_
  ·refine s_dol (o_callf (v := (.agg [(.int .i64 r_29.Kind), (.int .i64 r_29.N), (.str r_29.T), (.own 9 0 r_29.Keys.length), (.own 10 0 r_29.Items.length)])) (h' := [.row 1 (r_29.Keys.map AV.str), .row 5 (r_29.Items.map encGJson)]) (w_impl_jsNumber _ _ er30) rfl (.refl _) (by simp only [openV, openVs, List.length_map, encGJson_eq, List.nil_append, List.append_nil, List.cons_append]; rfl)) (.inr ⟨⟨nle, rfl⟩, ⟨⟨nle, rfl⟩, trivial⟩⟩) trivial ?_; refine s_dol (o_bslice (j := 11) (as' := [(.str [101, 114, 114, 111, 114]), (.str [105, 100]), (.str [114, 101, 115, 117, 108, 116])]) rfl (fun _ => by decide) ⟨rfl, ⟨rfl, ⟨rfl, trivial⟩⟩⟩ (.refl _) rfl rfl rfl) (.inr ⟨⟨nle, rfl⟩, ⟨⟨nle, rfl⟩, trivial⟩⟩) ?_ ?_
   ·refine s_dol (o_bslice (j := 11) (as' := [(encGJson (⟨x_16, x_17, x_18, x_21, x_22⟩ : GJson)), (encGJson r_29), (encGJson (⟨x_13, x_14, x_15, x_19, x_20⟩ : GJson))]) rfl (fun _ => by decide) ⟨rfl, ⟨rfl, ⟨rfl, trivial⟩⟩⟩ (.cons (leJ (x := (⟨x_16, x_17, x_18, x_21, x_22⟩ : GJson)) (.agg (.cons (.refl _) (.cons (.refl _) (.cons (.refl _) (.cons (.of_eq (congrArg (AV.lst _) (tk (enc := AV.str) x_21))) (.cons (.of_eq (congrArg (AV.lst _) (tk (enc := encGJson) x_22))) .nil))))))) (.cons (leJ (x := r_29) (.agg (.cons (.refl _) (.cons (.refl _) (.cons (.refl _) (.cons (.of_eq (congrArg (AV.lst _) (tk (enc := AV.str) r_29.Keys))) (.cons (.of_eq (congrArg (AV.lst _) (tk (enc := encGJson) r_29.Items))) .nil))))))) (.cons (leJ (x := (⟨x_13, x_14, x_15, x_19, x_20⟩ : GJson)) (.agg (.cons (.refl _) (.cons (.refl _) (.cons (.refl _) (.cons (.of_eq (congrArg (AV.lst _) (tk (enc := AV.str) x_19))) (.cons (.of_eq (congrArg (AV.lst _) (tk (enc := encGJson) x_20))) .nil))))))) .nil))) rfl rfl rfl) trivial trivial ?_
    refine s_dol (o_bslice (j := 12) (as' := [(.str [101, 114, 114, 111, 114]), (.str [105, 100]), (.str [114, 101, 115, 117, 108, 116])]) rfl (fun _ => by decide) ⟨rfl, ⟨rfl, ⟨rfl, trivial⟩⟩⟩ (.refl _) rfl rfl rfl) (.inr ⟨⟨nle, rfl⟩, ⟨⟨nle, rfl⟩, trivial⟩⟩) trivial ?_; refine s_dol (o_callh (v := (.agg [(.int .i64 r_31.Kind), (.int .i64 r_31.N), (.str r_31.T), (.own 13 0 r_31.Keys.length), (.own 14 0 r_31.Items.length)])) (h2 := [.dead, .dead, .box 5 (.agg [(.int .i64 x_13), (.int .i64 x_14), (.str x_15), (.own 5 0 x_19.length), (.own 6 0 x_20.length)]), .box 5 (.agg [(.int .i64 0), (.int .i64 0), (.str []), .nil, .nil]), .box 5 (.agg [(.int .i64 x_16), (.int .i64 x_17), (.str x_18), (.own 7 0 x_21.length), (.own 8 0 x_22.length)]), .dead, .dead, .dead, .dead, .dead, .dead, .dead, .dead, .row 1 (r_31.Keys.map AV.str), .row 5 (r_31.Items.map encGJson)]) [] [12, 11] (fun _ => rfl) (w_impl_jsObject_h0 _ _ _ er32) rfl (.cons (.of_eq (congrArg (AV.own _ 0) (by simp))) (.cons (.of_eq (congrArg (AV.own _ 0) (by simp))) .nil)) (.refl _) rfl rfl) trivial trivial ?_
    refine s_dol0 (o_storebox (v := (.agg [(.int .i64 r_31.Kind), (.int .i64 r_31.N), (.str r_31.T), (.own 13 0 r_31.Keys.length), (.own 14 0 r_31.Items.length)])) (y' := (.agg [(.int .i64 r_31.Kind), (.int .i64 r_31.N), (.str r_31.T), (.own 13 0 r_31.Keys.length), (.own 14 0 r_31.Items.length)])) rfl rfl rfl trivial ⟨rfl, nle⟩ ⟨⟨rfl, trivial⟩, ⟨⟨rfl, trivial⟩, ⟨⟨rfl, trivial⟩, ⟨⟨rfl, trivial⟩, ⟨⟨rfl, trivial⟩, trivial⟩⟩⟩⟩⟩ rfl) trivial trivial <| w_done <| k_seq <| w_ret <| ?_; obtain rfl := os hf; exact r_heap [] [0, 1, 13, 14] rfl ⟨nle, trivial⟩ rfl (.refl _) (.refl _)
   ·refine s_dol (o_bslice (j := 12) (as' := [(encGJson (⟨x_16, x_17, x_18, x_21, x_22⟩ : GJson)), (encGJson r_29), (encGJson (⟨x_13, x_14, x_15, x_19, x_20⟩ : GJson))]) rfl (fun _ => by decide) ⟨rfl, ⟨rfl, ⟨rfl, trivial⟩⟩⟩ (.cons (leJ (x := (⟨x_16, x_17, x_18, x_21, x_22⟩ : GJson)) (.agg (.cons (.refl _) (.cons (.refl _) (.cons (.refl _) (.cons (.of_eq (congrArg (AV.lst _) (tk (enc := AV.str) x_21))) (.cons (.of_eq (congrArg (AV.lst _) (tk (enc := encGJson) x_22))) .nil))))))) (.cons (leJ (x := r_29) (.agg (.cons (.refl _) (.cons (.refl _) (.cons (.refl _) (.cons (.of_eq (congrArg (AV.lst _) (tk (enc := AV.str) r_29.Keys))) (.cons (.of_eq (congrArg (AV.lst _) (tk (enc := encGJson) r_29.Items))) .nil))))))) (.cons (leJ (x := (⟨x_13, x_14, x_15, x_19, x_20⟩ : GJson)) (.agg (.cons (.refl _) (.cons (.refl _) (.cons (.refl _) (.cons (.of_eq (congrArg (AV.lst _) (tk (enc := AV.str) x_19))) (.cons (.of_eq (congrArg (AV.lst _) (tk (enc := encGJson) x_20))) .nil))))))) .nil))) rfl rfl rfl) trivial trivial ?_
    refine s_dol (o_callh (v := (.agg [(.int .i64 r_31.Kind), (.int .i64 r_31.N), (.str r_31.T), (.own 13 0 r_31.Keys.length), (.own 14 0 r_31.Items.length)])) (h2 := [.dead, .dead, .box 5 (.agg [(.int .i64 x_13), (.int .i64 x_14), (.str x_15), (.own 5 0 x_19.length), (.own 6 0 x_20.length)]), .box 5 (.agg [(.int .i64 0), (.int .i64 0), (.str []), .nil, .nil]), .box 5 (.agg [(.int .i64 x_16), (.int .i64 x_17), (.str x_18), (.own 7 0 x_21.length), (.own 8 0 x_22.length)]), .dead, .dead, .dead, .dead, .dead, .dead, .dead, .dead, .row 1 (r_31.Keys.map AV.str), .row 5 (r_31.Items.map encGJson)]) [] [11, 12] (fun _ => rfl) (w_impl_jsObject_h0 _ _ _ er32) rfl (.cons (.of_eq (congrArg (AV.own _ 0) (by simp))) (.cons (.of_eq (congrArg (AV.own _ 0) (by simp))) .nil)) (.refl _) rfl rfl) trivial trivial ?_
    refine s_dol0 (o_storebox (v := (.agg [(.int .i64 r_31.Kind), (.int .i64 r_31.N), (.str r_31.T), (.own 13 0 r_31.Keys.length), (.own 14 0 r_31.Items.length)])) (y' := (.agg [(.int .i64 r_31.Kind), (.int .i64 r_31.N), (.str r_31.T), (.own 13 0 r_31.Keys.length), (.own 14 0 r_31.Items.length)])) rfl rfl rfl trivial ⟨rfl, nle⟩ ⟨⟨rfl, trivial⟩, ⟨⟨rfl, trivial⟩, ⟨⟨rfl, trivial⟩, ⟨⟨rfl, trivial⟩, ⟨⟨rfl, trivial⟩, trivial⟩⟩⟩⟩⟩ rfl) trivial trivial <| w_done <| k_seq <| w_ret <| ?_; obtain rfl := os hf; exact r_heap [] [0, 1, 13, 14] rfl ⟨nle, trivial⟩ rfl (.refl _) (.refl _)
  ·refine s_dol (o_callf (v := (.agg [(.int .i64 r_29.Kind), (.int .i64 r_29.N), (.str r_29.T), (.own 10 0 r_29.Keys.length), (.own 11 0 r_29.Items.length)])) (h' := [.row 1 (r_29.Keys.map AV.str), .row 5 (r_29.Items.map encGJson)]) (w_impl_jsNumber _ _ er30) rfl (.refl _) (by simp only [openV, openVs, List.length_map, encGJson_eq, List.nil_append, List.append_nil, List.cons_append]; rfl)) (.inr ⟨⟨nle, rfl⟩, ⟨⟨nle, rfl⟩, trivial⟩⟩) trivial ?_; refine s_dol (o_bslice (j := 12) (as' := [(encGJson (⟨x_16, x_17, x_18, x_21, x_22⟩ : GJson)), (encGJson r_29), (encGJson (⟨x_13, x_14, x_15, x_19, x_20⟩ : GJson))]) rfl (fun _ => by decide) ⟨rfl, ⟨rfl, ⟨rfl, trivial⟩⟩⟩ (.cons (leJ (x := (⟨x_16, x_17, x_18, x_21, x_22⟩ : GJson)) (.agg (.cons (.refl _) (.cons (.refl _) (.cons (.refl _) (.cons (.of_eq (congrArg (AV.lst _) (tk (enc := AV.str) x_21))) (.cons (.of_eq (congrArg (AV.lst _) (tk (enc := encGJson) x_22))) .nil))))))) (.cons (leJ (x := r_29) (.agg (.cons (.refl _) (.cons (.refl _) (.cons (.refl _) (.cons (.of_eq (congrArg (AV.lst _) (tk (enc := AV.str) r_29.Keys))) (.cons (.of_eq (congrArg (AV.lst _) (tk (enc := encGJson) r_29.Items))) .nil))))))) (.cons (leJ (x := (⟨x_13, x_14, x_15, x_19, x_20⟩ : GJson)) (.agg (.cons (.refl _) (.cons (.refl _) (.cons (.refl _) (.cons (.of_eq (congrArg (AV.lst _) (tk (enc := AV.str) x_19))) (.cons (.of_eq (congrArg (AV.lst _) (tk (enc := encGJson) x_20))) .nil))))))) .nil))) rfl rfl rfl) trivial trivial ?_
   refine s_dol (o_callh (v := (.agg [(.int .i64 r_31.Kind), (.int .i64 r_31.N), (.str r_31.T), (.own 13 0 r_31.Keys.length), (.own 14 0 r_31.Items.length)])) (h2 := [.dead, .dead, .box 5 (.agg [(.int .i64 x_13), (.int .i64 x_14), (.str x_15), (.own 5 0 x_19.length), (.own 6 0 x_20.length)]), .box 5 (.agg [(.int .i64 0), (.int .i64 0), (.str []), .nil, .nil]), .box 5 (.agg [(.int .i64 x_16), (.int .i64 x_17), (.str x_18), (.own 7 0 x_21.length), (.own 8 0 x_22.length)]), .dead, .dead, .dead, .dead, .dead, .dead, .dead, .dead, .row 1 (r_31.Keys.map AV.str), .row 5 (r_31.Items.map encGJson)]) [] [9, 12] (fun _ => rfl) (w_impl_jsObject_h0 _ _ _ er32) rfl (.cons (.of_eq (congrArg (AV.own _ 0) (by simp))) (.cons (.of_eq (congrArg (AV.own _ 0) (by simp))) .nil)) (.refl _) rfl rfl) trivial trivial ?_
   refine s_dol0 (o_storebox (v := (.agg [(.int .i64 r_31.Kind), (.int .i64 r_31.N), (.str r_31.T), (.own 13 0 r_31.Keys.length), (.own 14 0 r_31.Items.length)])) (y' := (.agg [(.int .i64 r_31.Kind), (.int .i64 r_31.N), (.str r_31.T), (.own 13 0 r_31.Keys.length), (.own 14 0 r_31.Items.length)])) rfl rfl rfl trivial ⟨rfl, nle⟩ ⟨⟨rfl, trivial⟩, ⟨⟨rfl, trivial⟩, ⟨⟨rfl, trivial⟩, ⟨⟨rfl, trivial⟩, ⟨⟨rfl, trivial⟩, trivial⟩⟩⟩⟩⟩ rfl) trivial trivial <| w_done <| k_seq <| w_ret <| ?_; obtain rfl := os hf; exact r_heap [] [0, 1, 13, 14] rfl ⟨nle, trivial⟩ rfl (.refl _) (.refl _)

end Go.R
