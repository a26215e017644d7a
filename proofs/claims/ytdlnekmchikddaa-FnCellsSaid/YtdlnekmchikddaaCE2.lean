/- Walks. -/
import Derived.Test.YtdlnekmchikddaaCE1
set_option linter.all false
namespace Go.R
open Go Go.Proofs
set_option linter.unusedVariables false
set_option linter.unusedSimpArgs false
set_option maxHeartbeats 8000000
/- (*spec.l00Src).sets -/
def c38_h0:ACode :=
 (.seq (.reg (tm 4 (.c .nil) .done))
 (.seq (.reg (tq 10 (.call 14 []) (tq 11 (.field 0 1 false (.t 10)) (tm 12 (.t 1) (tq 13 (.iaddr 4 (.t 11) (.t 12)) (tq 14 (.load 4 true (.t 13)) (tq 5 (.box 4 (.c (.agg [(.str []),.nil,.nil,(.bool false)]))) (.q ⟨none,none,.store 4 (.t 5) (.t 14)⟩
 .done))))))))
 (.seq (.reg (tq 15 (.bslice 3 []) (tm 6 (.t 15) .done)))
 (.seq (.seq (.reg (tm 7 (.c (.int .i64 0)) .done))
 (.block 0 (.loop (.seq (.seq (.reg (tm 16 (.t 7) (tq 17 (.faddr 1 (.t 5)) (tq 18 (.load 1 false (.t 17)) (tq 19 (.len (.t 18)) (tq 20 (.bin .lss (.t 16) (.t 19)) .done))))))
 (.cond (.t 20) .skip
 (.exit 0)))
 (.seq (.block 1 (.seq (.seq (.reg (tm 23 (.t 0) (tq 24 (.call 77 [(.t 23),(.c (.int .i64 2))]) (tq 25 (.not (.t 24)) (tm 26 (.t 25) (tg 27 26 true (.mov (.t 7)) (tg 28 26 true (.bin .gtr (.t 27) (.c (.int .i64 0))) (tq 29 (.pick (.t 26) (.t 28) (.c (.bool false))) .done))))))))
 (.cut (.cond (.t 29) (.exit 1)
 .skip)))
 (.seq (.reg (tq 30 (.faddr 1 (.t 5)) (tq 31 (.load 1 false (.t 30)) (tm 32 (.t 7) (tq 33 (.iaddr 8 (.t 31) (.t 32)) (tq 34 (.load 8 true (.t 33)) (tq 8 (.box 8 (.c (.agg [(.str []),(.int .i64 0),(.int .i64 0),(.int .i64 0),(.int .i64 0),(.int .i64 0),(.str []),(.bool false)]))) (.q ⟨none,none,.store 8 (.t 8) (.t 34)⟩
 .done))))))))
 (.seq (.reg (tq 35 (.faddr 0 (.t 8)) (tq 36 (.load 1 false (.t 35)) (tm 37 (.t 0) (tq 38 (.faddr 1 (.t 8)) (tq 39 (.load 1 false (.t 38)) (.l ⟨(some 40),none,.call 29 [(.t 37),(.t 39)]⟩ [⟨(some 36),none,.load 1 false (.t 35)⟩,⟨(some 35),none,.faddr 0 (.t 8)⟩]
 (.l ⟨(some 41),none,.bslice 3 [(.t 40)]⟩ [⟨(some 36),none,.load 1 false (.t 35)⟩,⟨(some 35),none,.faddr 0 (.t 8)⟩]
 (.l ⟨(some 42),none,.bslice 1 []⟩ [⟨(some 39),none,.load 1 false (.t 38)⟩,⟨(some 38),none,.faddr 1 (.t 8)⟩,⟨(some 36),none,.load 1 false (.t 35)⟩,⟨(some 35),none,.faddr 0 (.t 8)⟩]
 (tq 43 (.build [(.str []),.nil,.nil] [(0,1,(.t 36)),(1,1,(.t 41)),(2,1,(.t 42))]) (.l ⟨(some 9),none,.box 3 (.c (.agg [(.str []),.nil,.nil]))⟩ [⟨(some 43),none,.build [(.str []),.nil,.nil] [(0,1,(.t 36)),(1,1,(.t 41)),(2,1,(.t 42))]⟩,⟨(some 39),none,.load 1 false (.t 38)⟩,⟨(some 38),none,.faddr 1 (.t 8)⟩,⟨(some 36),none,.load 1 false (.t 35)⟩,⟨(some 35),none,.faddr 0 (.t 8)⟩]
 (.l ⟨none,none,.store 3 (.t 9) (.t 43)⟩ []
 .done .non) .non)) (.l ⟨(some 9),none,.box 3 (.c (.agg [(.str []),.nil,.nil]))⟩ [⟨(some 39),none,.load 1 false (.t 38)⟩,⟨(some 38),none,.faddr 1 (.t 8)⟩,⟨(some 36),none,.load 1 false (.t 35)⟩,⟨(some 35),none,.faddr 0 (.t 8)⟩]
 (.l ⟨(some 42),none,.bslice 1 []⟩ [⟨(some 39),none,.load 1 false (.t 38)⟩,⟨(some 38),none,.faddr 1 (.t 8)⟩,⟨(some 36),none,.load 1 false (.t 35)⟩,⟨(some 35),none,.faddr 0 (.t 8)⟩]
 (tq 43 (.build [(.str []),.nil,.nil] [(0,1,(.t 36)),(1,1,(.t 41)),(2,1,(.t 42))]) (.l ⟨none,none,.store 3 (.t 9) (.t 43)⟩ []
 .done .non)) .non) .non)) (.l ⟨(some 42),none,.bslice 1 []⟩ [⟨(some 39),none,.load 1 false (.t 38)⟩,⟨(some 38),none,.faddr 1 (.t 8)⟩,⟨(some 36),none,.load 1 false (.t 35)⟩,⟨(some 35),none,.faddr 0 (.t 8)⟩]
 (.l ⟨(some 41),none,.bslice 3 [(.t 40)]⟩ [⟨(some 36),none,.load 1 false (.t 35)⟩,⟨(some 35),none,.faddr 0 (.t 8)⟩]
 (tq 43 (.build [(.str []),.nil,.nil] [(0,1,(.t 36)),(1,1,(.t 41)),(2,1,(.t 42))]) (.l ⟨(some 9),none,.box 3 (.c (.agg [(.str []),.nil,.nil]))⟩ [⟨(some 43),none,.build [(.str []),.nil,.nil] [(0,1,(.t 36)),(1,1,(.t 41)),(2,1,(.t 42))]⟩,⟨(some 39),none,.load 1 false (.t 38)⟩,⟨(some 38),none,.faddr 1 (.t 8)⟩,⟨(some 36),none,.load 1 false (.t 35)⟩,⟨(some 35),none,.faddr 0 (.t 8)⟩]
 (.l ⟨none,none,.store 3 (.t 9) (.t 43)⟩ []
 .done .non) .non)) (.l ⟨(some 9),none,.box 3 (.c (.agg [(.str []),.nil,.nil]))⟩ [⟨(some 39),none,.load 1 false (.t 38)⟩,⟨(some 38),none,.faddr 1 (.t 8)⟩,⟨(some 36),none,.load 1 false (.t 35)⟩,⟨(some 35),none,.faddr 0 (.t 8)⟩]
 (.l ⟨(some 41),none,.bslice 3 [(.t 40)]⟩ [⟨(some 36),none,.load 1 false (.t 35)⟩,⟨(some 35),none,.faddr 0 (.t 8)⟩]
 (tq 43 (.build [(.str []),.nil,.nil] [(0,1,(.t 36)),(1,1,(.t 41)),(2,1,(.t 42))]) (.l ⟨none,none,.store 3 (.t 9) (.t 43)⟩ []
 .done .non)) .non) .non)) (.l ⟨(some 9),none,.box 3 (.c (.agg [(.str []),.nil,.nil]))⟩ [⟨(some 39),none,.load 1 false (.t 38)⟩,⟨(some 38),none,.faddr 1 (.t 8)⟩,⟨(some 36),none,.load 1 false (.t 35)⟩,⟨(some 35),none,.faddr 0 (.t 8)⟩]
 (.l ⟨(some 41),none,.bslice 3 [(.t 40)]⟩ [⟨(some 36),none,.load 1 false (.t 35)⟩,⟨(some 35),none,.faddr 0 (.t 8)⟩]
 (.l ⟨(some 42),none,.bslice 1 []⟩ [⟨(some 39),none,.load 1 false (.t 38)⟩,⟨(some 38),none,.faddr 1 (.t 8)⟩,⟨(some 36),none,.load 1 false (.t 35)⟩,⟨(some 35),none,.faddr 0 (.t 8)⟩]
 (tq 43 (.build [(.str []),.nil,.nil] [(0,1,(.t 36)),(1,1,(.t 41)),(2,1,(.t 42))]) (.l ⟨none,none,.store 3 (.t 9) (.t 43)⟩ []
 .done .non)) .non) (.l ⟨(some 42),none,.bslice 1 []⟩ [⟨(some 39),none,.load 1 false (.t 38)⟩,⟨(some 38),none,.faddr 1 (.t 8)⟩,⟨(some 36),none,.load 1 false (.t 35)⟩,⟨(some 35),none,.faddr 0 (.t 8)⟩]
 (.l ⟨(some 41),none,.bslice 3 [(.t 40)]⟩ [⟨(some 36),none,.load 1 false (.t 35)⟩,⟨(some 35),none,.faddr 0 (.t 8)⟩]
 (tq 43 (.build [(.str []),.nil,.nil] [(0,1,(.t 36)),(1,1,(.t 41)),(2,1,(.t 42))]) (.l ⟨none,none,.store 3 (.t 9) (.t 43)⟩ []
 .done .non)) .non) .non)) .non))) (.l ⟨(some 42),none,.bslice 1 []⟩ [⟨(some 39),none,.load 1 false (.t 38)⟩,⟨(some 38),none,.faddr 1 (.t 8)⟩,⟨(some 36),none,.load 1 false (.t 35)⟩,⟨(some 35),none,.faddr 0 (.t 8)⟩]
 (.l ⟨(some 40),none,.call 29 [(.t 37),(.t 39)]⟩ [⟨(some 36),none,.load 1 false (.t 35)⟩,⟨(some 35),none,.faddr 0 (.t 8)⟩]
 (.l ⟨(some 41),none,.bslice 3 [(.t 40)]⟩ [⟨(some 36),none,.load 1 false (.t 35)⟩,⟨(some 35),none,.faddr 0 (.t 8)⟩]
 (tq 43 (.build [(.str []),.nil,.nil] [(0,1,(.t 36)),(1,1,(.t 41)),(2,1,(.t 42))]) (.l ⟨(some 9),none,.box 3 (.c (.agg [(.str []),.nil,.nil]))⟩ [⟨(some 43),none,.build [(.str []),.nil,.nil] [(0,1,(.t 36)),(1,1,(.t 41)),(2,1,(.t 42))]⟩,⟨(some 39),none,.load 1 false (.t 38)⟩,⟨(some 38),none,.faddr 1 (.t 8)⟩,⟨(some 36),none,.load 1 false (.t 35)⟩,⟨(some 35),none,.faddr 0 (.t 8)⟩]
 (.l ⟨none,none,.store 3 (.t 9) (.t 43)⟩ []
 .done .non) .non)) (.l ⟨(some 9),none,.box 3 (.c (.agg [(.str []),.nil,.nil]))⟩ [⟨(some 39),none,.load 1 false (.t 38)⟩,⟨(some 38),none,.faddr 1 (.t 8)⟩,⟨(some 36),none,.load 1 false (.t 35)⟩,⟨(some 35),none,.faddr 0 (.t 8)⟩]
 (.l ⟨(some 41),none,.bslice 3 [(.t 40)]⟩ [⟨(some 36),none,.load 1 false (.t 35)⟩,⟨(some 35),none,.faddr 0 (.t 8)⟩]
 (tq 43 (.build [(.str []),.nil,.nil] [(0,1,(.t 36)),(1,1,(.t 41)),(2,1,(.t 42))]) (.l ⟨none,none,.store 3 (.t 9) (.t 43)⟩ []
 .done .non)) .non) .non)) (.l ⟨(some 9),none,.box 3 (.c (.agg [(.str []),.nil,.nil]))⟩ [⟨(some 39),none,.load 1 false (.t 38)⟩,⟨(some 38),none,.faddr 1 (.t 8)⟩,⟨(some 36),none,.load 1 false (.t 35)⟩,⟨(some 35),none,.faddr 0 (.t 8)⟩]
 (.l ⟨(some 40),none,.call 29 [(.t 37),(.t 39)]⟩ [⟨(some 36),none,.load 1 false (.t 35)⟩,⟨(some 35),none,.faddr 0 (.t 8)⟩]
 (.l ⟨(some 41),none,.bslice 3 [(.t 40)]⟩ [⟨(some 36),none,.load 1 false (.t 35)⟩,⟨(some 35),none,.faddr 0 (.t 8)⟩]
 (tq 43 (.build [(.str []),.nil,.nil] [(0,1,(.t 36)),(1,1,(.t 41)),(2,1,(.t 42))]) (.l ⟨none,none,.store 3 (.t 9) (.t 43)⟩ []
 .done .non)) .non) .non) .non)) (.l ⟨(some 9),none,.box 3 (.c (.agg [(.str []),.nil,.nil]))⟩ [⟨(some 39),none,.load 1 false (.t 38)⟩,⟨(some 38),none,.faddr 1 (.t 8)⟩,⟨(some 36),none,.load 1 false (.t 35)⟩,⟨(some 35),none,.faddr 0 (.t 8)⟩]
 (.l ⟨(some 40),none,.call 29 [(.t 37),(.t 39)]⟩ [⟨(some 36),none,.load 1 false (.t 35)⟩,⟨(some 35),none,.faddr 0 (.t 8)⟩]
 (.l ⟨(some 41),none,.bslice 3 [(.t 40)]⟩ [⟨(some 36),none,.load 1 false (.t 35)⟩,⟨(some 35),none,.faddr 0 (.t 8)⟩]
 (.l ⟨(some 42),none,.bslice 1 []⟩ [⟨(some 39),none,.load 1 false (.t 38)⟩,⟨(some 38),none,.faddr 1 (.t 8)⟩,⟨(some 36),none,.load 1 false (.t 35)⟩,⟨(some 35),none,.faddr 0 (.t 8)⟩]
 (tq 43 (.build [(.str []),.nil,.nil] [(0,1,(.t 36)),(1,1,(.t 41)),(2,1,(.t 42))]) (.l ⟨none,none,.store 3 (.t 9) (.t 43)⟩ []
 .done .non)) .non) (.l ⟨(some 42),none,.bslice 1 []⟩ [⟨(some 39),none,.load 1 false (.t 38)⟩,⟨(some 38),none,.faddr 1 (.t 8)⟩,⟨(some 36),none,.load 1 false (.t 35)⟩,⟨(some 35),none,.faddr 0 (.t 8)⟩]
 (.l ⟨(some 41),none,.bslice 3 [(.t 40)]⟩ [⟨(some 36),none,.load 1 false (.t 35)⟩,⟨(some 35),none,.faddr 0 (.t 8)⟩]
 (tq 43 (.build [(.str []),.nil,.nil] [(0,1,(.t 36)),(1,1,(.t 41)),(2,1,(.t 42))]) (.l ⟨none,none,.store 3 (.t 9) (.t 43)⟩ []
 .done .non)) .non) .non)) (.l ⟨(some 42),none,.bslice 1 []⟩ [⟨(some 39),none,.load 1 false (.t 38)⟩,⟨(some 38),none,.faddr 1 (.t 8)⟩,⟨(some 36),none,.load 1 false (.t 35)⟩,⟨(some 35),none,.faddr 0 (.t 8)⟩]
 (.l ⟨(some 40),none,.call 29 [(.t 37),(.t 39)]⟩ [⟨(some 36),none,.load 1 false (.t 35)⟩,⟨(some 35),none,.faddr 0 (.t 8)⟩]
 (.l ⟨(some 41),none,.bslice 3 [(.t 40)]⟩ [⟨(some 36),none,.load 1 false (.t 35)⟩,⟨(some 35),none,.faddr 0 (.t 8)⟩]
 (tq 43 (.build [(.str []),.nil,.nil] [(0,1,(.t 36)),(1,1,(.t 41)),(2,1,(.t 42))]) (.l ⟨none,none,.store 3 (.t 9) (.t 43)⟩ []
 .done .non)) .non) .non) .non)) .non)))))))))
 (.cut (.seq (.seq (.reg (tq 44 (.faddr 1 (.t 8)) (tq 45 (.load 1 false (.t 44)) (tq 46 (.bin .eql (.t 45) (.c (.int .i64 4))) .done))))
 (.cond (.t 46) (.seq (.reg (tq 47 (.bslice 3 []) (tq 48 (.faddr 1 (.t 9)) (.q ⟨none,none,.store 1 (.t 48) (.t 47)⟩
 .done))))
 (.seq (.reg (tm 49 (.t 0) (tq 50 (.call 77 [(.t 49),(.c (.int .i64 2))]) .done)))
 (.cond (.t 50) (.reg (tm 51 (.t 0) (tq 52 (.bslice 1 [(.c (.str [112])),(.c (.str [113]))]) (tq 53 (.call 65 [(.t 51),(.t 52)]) (tq 54 (.bslice 1 [(.t 53)]) (tq 55 (.faddr 2 (.t 9)) (.q ⟨none,none,.store 1 (.t 55) (.t 54)⟩
 .done)))))))
 (.seq (.reg (tm 56 (.t 0) (tq 57 (.call 77 [(.t 56),(.c (.int .i64 2))]) .done)))
 (.cond (.t 57) (.reg (tm 58 (.t 0) (tq 59 (.call 53 [(.t 58),(.c (.int .i64 4))]) (tq 60 (.faddr 1 (.t 9)) (.q ⟨none,none,.store 1 (.t 60) (.t 59)⟩
 .done)))))
 .skip)))))
 .skip))
 (.cut (.reg (tm 61 (.t 6) (tq 62 (.load 3 true (.t 9)) (tq 63 (.bslice 3 [(.t 62)]) (tq 64 (.append 3 64 (.t 61) (.t 63)) (tm 6 (.t 64) .done)))))))))))))
 (.reg (tm 21 (.t 7) (tq 22 (.bin .add (.t 21) (.c (.int .i64 1))) (tm 7 (.t 22) .done)))))))))
 (.cut (.seq (.reg (tm 65 (.t 6) (tm 4 (.t 65) .done)))
 .ret))))))
theorem fc38_h0:fcomp Try.prog Try.f38 = some (c38_h0.erase,[.mov (.t 4)],66):=by kernel_rfl
def spec_l00Src_sets_L1 :List GColumn → Nat → (List Int) → Int → Int → (List GSet) → Option ((List Int) × Int × Int × (List GSet))
  | [],i_121,x_122,x_123,x_124,out_125 =>
    some (x_122,x_123,x_124,out_125)
  | x_192 :: xs,i_121,x_122,x_123,x_124,out_125 =>
    (((spec_l00Src_chance 2 (⟨x_122,x_123,x_124⟩:GL00Src)).bind fun r_203 =>
    if (!r_203.1) then
    some ((decide ((i_121:Int) > 0)),r_203.2.Code,r_203.2.At,r_203.2.Seed)
    else
    some (false,r_203.2.Code,r_203.2.At,r_203.2.Seed):Option (Bool × (List Int) × Int × Int))).bind fun p202 =>
    (match p202 with
    | (s29_198,x_199,x_200,x_201) =>
    if s29_198 then
    spec_l00Src_sets_L1 xs (i_121 + 1) x_199 x_200 x_201 out_125
    else
    (((spec_l00Src_atom x_192.Kind (⟨x_199,x_200,x_201⟩:GL00Src)).bind fun r_214 =>
    some (r_214.2.Code,r_214.2.At,r_214.2.Seed,[r_214.1]):Option ((List Int) × Int × Int × (List GAtom)))).bind fun p213 =>
    (match p213 with
    | (x_209,x_210,x_211,x_212) =>
    ((if (x_192.Kind == 4) then
    (spec_l00Src_chance 2 (⟨x_209,x_210,x_211⟩:GL00Src)).bind fun r_234 =>
    if r_234.1 then
    (spec_l00Src_pick [[112],[113]] r_234.2).bind fun r_237 =>
    some (r_237.2.Code,r_237.2.At,r_237.2.Seed,[],[r_237.1])
    else
    (spec_l00Src_chance 2 r_234.2).bind fun r_239 =>
    if r_239.1 then
    (spec_l00Src_datum 4 r_239.2).bind fun r_242 =>
    some (r_242.2.Code,r_242.2.At,r_242.2.Seed,r_242.1,[])
    else
    some (r_239.2.Code,r_239.2.At,r_239.2.Seed,[],[])
    else
    some (x_209,x_210,x_211,x_212,[]):Option ((List Int) × Int × Int × (List GAtom) × (List Str)))).bind fun p232 =>
    (match p232 with
    | (x_227,x_228,x_229,x_230,x_231) =>
    if (out_125 ++ [(⟨x_192.Name,x_230,x_231⟩:GSet)]).length ≤ 2 ^ 30 then
    spec_l00Src_sets_L1 xs (i_121 + 1) x_227 x_228 x_229 (out_125 ++ [(⟨x_192.Name,x_230,x_231⟩:GSet)])
    else none)))

def spec_l00Src_sets (table_1:Int) (s_2:GL00Src):Option ((List GSet) × GL00Src) :=
    (spec_PlainSchema).bind fun r_3 =>
    if (0:Int) ≤ table_1 ∧ table_1 < (r_3.Tables.length:Int) then
    (r_3.Tables[(0 + table_1.toNat)]?).bind fun x_6 =>
    (spec_l00Src_sets_L1 x_6.Columns 0 s_2.Code s_2.At s_2.Seed []).bind fun p185 =>
    (match p185 with
    | (x_181,x_182,x_183,out_184) =>
    some (out_184,(⟨x_181,x_182,x_183⟩:GL00Src)))
    else none
theorem w_spec_l00Src_sets (table_1:Int) (s_2:GL00Src) (r:((List GSet) × GL00Src)) (hf:spec_l00Src_sets table_1 s_2 = some r):CallHeap Try.prog true 38 [(.ptr 0 0 0),(.int .i64 table_1)] [.box 3 (.agg [(.lst 1 (s_2.Code.map enc_u8)),(.int .i64 s_2.At),(.int .i64 s_2.Seed)])] (.own 1 0 r.1.length) [.box 3 (.agg [(.lst 1 (r.2.Code.map enc_u8)),(.int .i64 r.2.At),(.int .i64 r.2.Seed)]),.row 3 (r.1.map encGSet)]:=by
 refine CallHeap.of_awp mixed Try.func38 fc38_h0 nle ?_;rw [argT_eq];unfold spec_l00Src_sets at hf;unfold c38_h0;refine (show awp Try.prog true 1 _ (ofL [(0,(.ptr 0 0 0)),(1,(.int .i64 table_1))]) [.box 3 (.agg [(.lst 1 (s_2.Code.map enc_u8)),(.int .i64 s_2.At),(.int .i64 s_2.Seed)])] _ from ?_);refine sr<|s_mov .nil rfl<|dk<|sr<|?_
 obtain ⟨r_3,er4,hf⟩:=ob hf
 obtain ⟨g5,hf⟩:=og hf
 obtain ⟨x_6,ex7,hf⟩:=ob hf
 refine s_do (o_callf (v:=(.agg [(.own 1 0 r_3.Tables.length)])) (h':=[.row 4 (r_3.Tables.map encGTable)]) (w_spec_PlainSchema _ er4) rfl (.refl _) (by simp only [openV,openVs,List.length_map,encGSchema_eq,List.nil_append,List.append_nil,List.cons_append];rfl))<|s_q (.own 1 0 r_3.Tables.length) rfl nle rfl<|s_mov (.int .i64 table_1) rfl<|s_do (o_iaddrown rfl rfl g5.1 g5.2 rfl rfl)<|s_do (o_loadrow (enc:=encGTable) (v:=(encGTable x_6)) rfl rfl ex7 nle rfl)<|s_do (o_box (j:=2) (c:=(.agg [(.str []),.nil,.nil,(.bool false)])) rfl trivial rfl rfl)<|s_do0 (o_storebox (v:=(.agg [(.str x_6.Name),(.lst 8 (x_6.Columns.map encGColumn)),(.lst 1 (x_6.Unique.map encI)),(.bool x_6.Root)])) (y':=(.agg [(.str x_6.Name),(.lst 8 (x_6.Columns.map encGColumn)),(.lst 1 (x_6.Unique.map encI)),(.bool x_6.Root)])) rfl rfl rfl trivial ⟨rfl,nle⟩ ⟨⟨rfl,trivial⟩,⟨⟨rfl,trivial⟩,⟨⟨rfl,trivial⟩,⟨⟨rfl,trivial⟩,trivial⟩⟩⟩⟩ rfl)<|?_
 refine dk<|sr<|?_;refine s_do (o_bslice (j:=3) (as':=[]) rfl (fun _ => by decide) trivial (.refl _) rfl rfl rfl) ?_;refine s_mov (.own 3 0 0) rfl<|dk<|awp_seq<|sr<|s_mov (.int .i64 0) rfl<|dk<|?_
 obtain ⟨p185,hb1,hf⟩:=ob hf
 refine awp_cut ([(6,(.own 1 0 p185.2.2.2.length))],[.box 3 (.agg [(.lst 1 (p185.1.map enc_u8)),(.int .i64 p185.2.1),(.int .i64 p185.2.2.1)]),.row 3 (p185.2.2.2.map encGSet)]) ?_ ?_
 ·refine awp_loop (X:={q:(Nat × (List Int) × Int × Int × (List GSet)) // spec_l00Src_sets_L1 (x_6.Columns.drop q.1) q.1 q.2.1 q.2.2.1 q.2.2.2.1 q.2.2.2.2 = some p185}) (fun q => ([(0,(.ptr 0 0 0)),(5,(.ptr 1 0 0)),(6,(.own 2 0 q.1.2.2.2.2.length)),(7,(.int .i64 (q.1.1:Int)))],[.box 3 (.agg [(.lst 1 (q.1.2.1.map enc_u8)),(.int .i64 q.1.2.2.1),(.int .i64 q.1.2.2.2.1)]),.box 4 (.agg [(.str x_6.Name),(.lst 8 (x_6.Columns.map encGColumn)),(.lst 1 (x_6.Unique.map encI)),(.bool x_6.Root)]),.row 3 (q.1.2.2.2.2.map encGSet)])) (fun q => x_6.Columns.length - q.1.1) ⟨(0,s_2.Code,s_2.At,s_2.Seed,[]),hb1⟩ ⟨[],[0,2,3],_,_,rfl,rfl,⟨.refl _,⟨.refl _,⟨.of_eq (congrArg (AV.own _ 0) (by simp)),⟨.refl _,trivial⟩⟩⟩⟩,(.refl _)⟩ ?_
  rintro ⟨⟨i_121,x_122,x_123,x_124,out_125⟩,hc1⟩
  have hc1:spec_l00Src_sets_L1 (x_6.Columns.drop i_121) i_121 x_122 x_123 x_124 out_125 = some p185:=hc1
  refine (show awp Try.prog true 1 _ (ofL [(0,(.ptr 0 0 0)),(5,(.ptr 1 0 0)),(6,(.own 2 0 out_125.length)),(7,(.int .i64 (i_121:Int)))]) [.box 3 (.agg [(.lst 1 (x_122.map enc_u8)),(.int .i64 x_123),(.int .i64 x_124)]),.box 4 (.agg [(.str x_6.Name),(.lst 8 (x_6.Columns.map encGColumn)),(.lst 1 (x_6.Unique.map encI)),(.bool x_6.Root)]),.row 3 (out_125.map encGSet)] _ from ?_)
  rcases dropc x_6.Columns i_121 with ⟨hie188,hd191⟩ | ⟨hlt186,x_192,hx187,hd191⟩
  ·rw [hd191,spec_l00Src_sets_L1.eq_1] at hc1
   have hq190:=dlf hie188
   refine awp_seq<|sr<|s_mov (.int .i64 (i_121:Int)) rfl<|s_q (.ptr 1 0 1) rfl trivial rfl<|s_q (.lst 8 (x_6.Columns.map encGColumn)) rfl nle rfl<|s_dof (o_len (enc:=encGColumn) rfl) fun hl193 => s_q (.bool (decide ((i_121:Int) < (x_6.Columns.length:Int)))) rfl rfl rfl<|dk<|w_condf rfl hq190<|w_exit<|k_seqx<|k_loopx<|k_blkx<|?_;obtain rfl:=os hc1;exact ⟨[],[0,2],_,_,rfl,rfl,⟨.refl _,trivial⟩,(.refl _)⟩
  ·rw [hd191,spec_l00Src_sets_L1.eq_2] at hc1
   have hq190:=dlt hlt186
   refine awp_seq<|sr<|s_mov (.int .i64 (i_121:Int)) rfl<|s_q (.ptr 1 0 1) rfl trivial rfl<|s_q (.lst 8 (x_6.Columns.map encGColumn)) rfl nle rfl<|s_dof (o_len (enc:=encGColumn) rfl) fun hl194 => s_q (.bool (decide ((i_121:Int) < (x_6.Columns.length:Int)))) rfl rfl rfl<|dk<|w_condt rfl hq190<|w_skip<|k_seq<|awp_seq<|w_blk<|awp_seq<|awp_seq<|?_
   obtain ⟨p202,hb2,hc1⟩:=ob hc1
   refine awp_cut ([(0,(.ptr 0 0 0)),(5,(.ptr 1 0 0)),(6,(.own 2 0 out_125.length)),(7,(.int .i64 (i_121:Int))),(29,(.bool p202.1))],[.box 3 (.agg [(.lst 1 (p202.2.1.map enc_u8)),(.int .i64 p202.2.2.1),(.int .i64 p202.2.2.2)]),.box 4 (.agg [(.str x_6.Name),(.lst 8 (x_6.Columns.map encGColumn)),(.lst 1 (x_6.Unique.map encI)),(.bool x_6.Root)]),.row 3 (out_125.map encGSet)]) ?_ ?_
   ·refine w_reg ?_
    obtain ⟨r_203,er204,hb2⟩:=ob hb2
    rcases oi hb2 with ⟨c205,hb2⟩ | ⟨c205,hb2⟩
    ·refine s_mov (.ptr 0 0 0) rfl ?_;refine s_do (o_callh (v:=(.bool r_203.1)) (h2:=[.box 3 (.agg [(.lst 1 (r_203.2.Code.map enc_u8)),(.int .i64 r_203.2.At),(.int .i64 r_203.2.Seed)]),.box 4 (.agg [(.str x_6.Name),(.lst 8 (x_6.Columns.map encGColumn)),(.lst 1 (x_6.Unique.map encI)),(.bool x_6.Root)]),.row 3 (out_125.map encGSet)]) [] [0] (fun _ => rfl) (w_spec_l00Src_chance _ _ _ er204) rfl (.refl _) (.refl _) rfl rfl) ?_;refine s_q (.bool (!r_203.1)) rfl trivial rfl<|s_mov (.bool (!r_203.1)) rfl<|s_lit (s:=26) (b:=true) rfl c205<|s_on rfl<|s_mov (.int .i64 (i_121:Int)) rfl<|s_on rfl<|s_q (.bool (decide ((i_121:Int) > 0))) rfl rfl rfl<|s_q (.bool (decide ((i_121:Int) > 0))) rfl trivial rfl<|?_
     refine w_done ?_;obtain rfl:=os hb2;exact ⟨[],[0,1,2],_,_,rfl,rfl,⟨.refl _,⟨.refl _,⟨.refl _,⟨.refl _,⟨.refl _,trivial⟩⟩⟩⟩⟩,(.refl _)⟩
    ·refine s_mov (.ptr 0 0 0) rfl ?_;refine s_do (o_callh (v:=(.bool r_203.1)) (h2:=[.box 3 (.agg [(.lst 1 (r_203.2.Code.map enc_u8)),(.int .i64 r_203.2.At),(.int .i64 r_203.2.Seed)]),.box 4 (.agg [(.str x_6.Name),(.lst 8 (x_6.Columns.map encGColumn)),(.lst 1 (x_6.Unique.map encI)),(.bool x_6.Root)]),.row 3 (out_125.map encGSet)]) [] [0] (fun _ => rfl) (w_spec_l00Src_chance _ _ _ er204) rfl (.refl _) (.refl _) rfl rfl) ?_;refine s_q (.bool (!r_203.1)) rfl trivial rfl<|s_mov (.bool (!r_203.1)) rfl<|s_lit (s:=26) (b:=false) rfl (bf c205)<|s_off rfl rfl<|s_off rfl rfl<|s_q (.bool false) rfl trivial rfl<|w_done<|?_;obtain rfl:=os hb2;exact ⟨[],[0,1,2],_,_,rfl,rfl,⟨.refl _,⟨.refl _,⟨.refl _,⟨.refl _,⟨.refl _,trivial⟩⟩⟩⟩⟩,(.refl _)⟩
   ·obtain ⟨s29_198,x_199,x_200,x_201⟩:=p202
    rcases oi hc1 with ⟨c206,hc1⟩ | ⟨c206,hc1⟩
    ·refine w_condt rfl c206<|w_exit<|k_seqx<|k_blkx<|?_;refine k_seq<|w_reg<|s_mov (.int .i64 (i_121:Int)) rfl<|s_q (.int .i64 (w64 ((i_121:Int) + 1))) rfl rfl rfl<|s_mov (.int .i64 (w64 ((i_121:Int) + 1))) rfl<|w_done<|?_;exact k_loopn ⟨((i_121 + 1),x_199,x_200,x_201,out_125),hc1⟩ (mul hlt186) ⟨[],[0,1,2],_,_,rfl,rfl,⟨.refl _,⟨.refl _,⟨.refl _,⟨.of_eq (congrArg (AV.int _) (w64_incr hlt186 hl194)),trivial⟩⟩⟩⟩,(.refl _)⟩
    ·refine w_condf rfl (bf c206)<|w_skip<|k_seq<|sr<|s_q (.ptr 1 0 1) rfl trivial rfl<|s_q (.lst 8 (x_6.Columns.map encGColumn)) rfl nle rfl<|s_mov (.int .i64 (i_121:Int)) rfl<|s_do (o_iaddrn (enc:=encGColumn) rfl rfl hx187)<|s_q (encGColumn x_192) rfl nle rfl<|s_do (o_box (j:=3) (c:=(.agg [(.str []),(.int .i64 0),(.int .i64 0),(.int .i64 0),(.int .i64 0),(.int .i64 0),(.str []),(.bool false)])) rfl trivial rfl rfl)<|s_do0 (o_storebox (v:=(.agg [(.str x_192.Name),(.int .i64 x_192.Kind),(.int .i64 x_192.Min),(.int .i64 x_192.Max),(.int .i64 x_192.Low),(.int .i64 x_192.High),(.str x_192.Ref),(.bool x_192.Strong)])) (y':=(.agg [(.str x_192.Name),(.int .i64 x_192.Kind),(.int .i64 x_192.Min),(.int .i64 x_192.Max),(.int .i64 x_192.Low),(.int .i64 x_192.High),(.str x_192.Ref),(.bool x_192.Strong)])) rfl rfl rfl trivial ⟨rfl,nle⟩ ⟨⟨rfl,trivial⟩,⟨⟨rfl,trivial⟩,⟨⟨rfl,trivial⟩,⟨⟨rfl,trivial⟩,⟨⟨rfl,trivial⟩,⟨⟨rfl,trivial⟩,⟨⟨rfl,trivial⟩,⟨⟨rfl,trivial⟩,trivial⟩⟩⟩⟩⟩⟩⟩⟩ rfl)<|?_
     refine dk<|awp_seq<|?_
     obtain ⟨p213,hb2,hc1⟩:=ob hc1
     refine awp_cut ([(0,(.ptr 0 0 0)),(5,(.ptr 1 0 0)),(6,(.own 2 0 out_125.length)),(7,(.int .i64 (i_121:Int))),(8,(.ptr 3 0 0)),(9,(.ptr 4 0 0))],[.box 3 (.agg [(.lst 1 (p213.1.map enc_u8)),(.int .i64 p213.2.1),(.int .i64 p213.2.2.1)]),.box 4 (.agg [(.str x_6.Name),(.lst 8 (x_6.Columns.map encGColumn)),(.lst 1 (x_6.Unique.map encI)),(.bool x_6.Root)]),.row 3 (out_125.map encGSet),.box 8 (.agg [(.str x_192.Name),(.int .i64 x_192.Kind),(.int .i64 x_192.Min),(.int .i64 x_192.Max),(.int .i64 x_192.Low),(.int .i64 x_192.High),(.str x_192.Ref),(.bool x_192.Strong)]),.box 3 (.agg [(.str x_192.Name),(.own 5 0 p213.2.2.2.length),(.own 6 0 0)]),.row 3 (p213.2.2.2.map encGAtom),.row 1 ([].map AV.str)]) ?_ ?_
     ·refine w_reg ?_
      obtain ⟨r_214,er215,hb2⟩:=ob hb2
      refine s_q (.ptr 3 0 0) rfl trivial rfl<|s_q (.str x_192.Name) rfl nle rfl<|s_mov (.ptr 0 0 0) rfl<|s_q (.ptr 3 0 1) rfl trivial rfl<|s_q (.int .i64 x_192.Kind) rfl nle rfl<|?_;refine s_dol (o_callh (v:=(encGAtom r_214.1)) (h2:=[.box 3 (.agg [(.lst 1 (r_214.2.Code.map enc_u8)),(.int .i64 r_214.2.At),(.int .i64 r_214.2.Seed)]),.box 4 (.agg [(.str x_6.Name),(.lst 8 (x_6.Columns.map encGColumn)),(.lst 1 (x_6.Unique.map encI)),(.bool x_6.Root)]),.row 3 (out_125.map encGSet),.box 8 (.agg [(.str x_192.Name),(.int .i64 x_192.Kind),(.int .i64 x_192.Min),(.int .i64 x_192.Max),(.int .i64 x_192.Low),(.int .i64 x_192.High),(.str x_192.Ref),(.bool x_192.Strong)])]) [] [0] (fun _ => rfl) (w_spec_l00Src_atom _ _ _ er215) rfl (.refl _) (.refl _) rfl rfl) (.inr ⟨⟨nle,rfl⟩,⟨⟨trivial,rfl⟩,trivial⟩⟩) ?_ ?_
      ·refine s_dol (o_bslice (j:=4) (as':=[]) rfl (fun _ => by decide) trivial (.refl _) rfl rfl rfl) (.inr ⟨⟨nle,rfl⟩,⟨⟨trivial,rfl⟩,⟨⟨nle,rfl⟩,⟨⟨trivial,rfl⟩,trivial⟩⟩⟩⟩) ?_ ?_
       ·refine s_dol (o_box (j:=4) (c:=(.agg [(.str []),.nil,.nil])) rfl trivial rfl rfl) (.inr ⟨⟨nle,rfl⟩,⟨⟨trivial,rfl⟩,⟨⟨nle,rfl⟩,⟨⟨trivial,rfl⟩,trivial⟩⟩⟩⟩) trivial ?_;refine s_dol (o_callh (v:=(encGAtom r_214.1)) (h2:=[.box 3 (.agg [(.lst 1 (r_214.2.Code.map enc_u8)),(.int .i64 r_214.2.At),(.int .i64 r_214.2.Seed)]),.box 4 (.agg [(.str x_6.Name),(.lst 8 (x_6.Columns.map encGColumn)),(.lst 1 (x_6.Unique.map encI)),(.bool x_6.Root)]),.row 3 (out_125.map encGSet),.box 8 (.agg [(.str x_192.Name),(.int .i64 x_192.Kind),(.int .i64 x_192.Min),(.int .i64 x_192.Max),(.int .i64 x_192.Low),(.int .i64 x_192.High),(.str x_192.Ref),(.bool x_192.Strong)]),.box 3 (.agg [(.str []),.nil,.nil])]) [] [0] (fun _ => rfl) (w_spec_l00Src_atom _ _ _ er215) rfl (.refl _) (.refl _) rfl rfl) (.inr ⟨⟨nle,rfl⟩,⟨⟨trivial,rfl⟩,trivial⟩⟩) ?_ ?_
        ·refine s_dol (o_bslice (j:=5) (as':=[]) rfl (fun _ => by decide) trivial (.refl _) rfl rfl rfl) (.inr ⟨⟨nle,rfl⟩,⟨⟨trivial,rfl⟩,⟨⟨nle,rfl⟩,⟨⟨trivial,rfl⟩,trivial⟩⟩⟩⟩) trivial ?_;refine s_dol (o_callh (v:=(encGAtom r_214.1)) (h2:=[.box 3 (.agg [(.lst 1 (r_214.2.Code.map enc_u8)),(.int .i64 r_214.2.At),(.int .i64 r_214.2.Seed)]),.box 4 (.agg [(.str x_6.Name),(.lst 8 (x_6.Columns.map encGColumn)),(.lst 1 (x_6.Unique.map encI)),(.bool x_6.Root)]),.row 3 (out_125.map encGSet),.box 8 (.agg [(.str x_192.Name),(.int .i64 x_192.Kind),(.int .i64 x_192.Min),(.int .i64 x_192.Max),(.int .i64 x_192.Low),(.int .i64 x_192.High),(.str x_192.Ref),(.bool x_192.Strong)]),.box 3 (.agg [(.str []),.nil,.nil]),.row 1 ([].map AV.str)]) [] [0] (fun _ => rfl) (w_spec_l00Src_atom _ _ _ er215) rfl (.refl _) (.refl _) rfl rfl) (.inr ⟨⟨nle,rfl⟩,⟨⟨trivial,rfl⟩,trivial⟩⟩) trivial ?_
         refine s_dol (o_bslice (j:=6) (as':=[(encGAtom r_214.1)]) rfl (fun _ => by decide) ⟨rfl,trivial⟩ (.refl _) rfl rfl rfl) (.inr ⟨⟨nle,rfl⟩,⟨⟨trivial,rfl⟩,trivial⟩⟩) trivial ?_;refine s_q (.agg [(.str x_192.Name),(.own 6 0 1),(.own 5 0 0)]) rfl ⟨⟨rfl,nle,trivial⟩,⟨⟨rfl,nle,trivial⟩,⟨⟨rfl,nle,trivial⟩,trivial⟩⟩⟩ rfl<|s_dol0 (o_storebox (v:=(.agg [(.str x_192.Name),(.own 6 0 1),(.own 5 0 0)])) (y':=(.agg [(.str x_192.Name),(.own 6 0 1),(.own 5 0 0)])) rfl rfl rfl trivial ⟨rfl,nle⟩ ⟨⟨rfl,trivial⟩,⟨⟨rfl,trivial⟩,⟨⟨rfl,trivial⟩,trivial⟩⟩⟩ rfl) trivial trivial<|w_done<|?_;obtain rfl:=os hb2;exact ⟨[],[0,1,2,3,4,6,5],_,_,rfl,rfl,⟨.refl _,⟨.refl _,⟨.refl _,⟨.refl _,⟨.refl _,⟨.refl _,trivial⟩⟩⟩⟩⟩⟩,(.cons (.refl _) (.cons (.refl _) (.cons (.refl _) (.cons (.refl _) (.cons (.box (.agg (.cons (.refl _) (.cons (.of_eq (congrArg (AV.own _ 0) (by simp))) (.cons (.of_eq (congrArg (AV.own _ 0) (by simp))) .nil))))) (.cons (.refl _) (.cons (.refl _) .nil)))))))⟩
        ·refine s_dol (o_bslice (j:=5) (as':=[(encGAtom r_214.1)]) rfl (fun _ => by decide) ⟨rfl,trivial⟩ (.refl _) rfl rfl rfl) (.inr ⟨⟨nle,rfl⟩,⟨⟨trivial,rfl⟩,trivial⟩⟩) ?_ ?_
         ·refine s_dol (o_bslice (j:=5) (as':=[]) rfl (fun _ => by decide) trivial (.refl _) rfl rfl rfl) (.inr ⟨⟨nle,rfl⟩,⟨⟨trivial,rfl⟩,⟨⟨nle,rfl⟩,⟨⟨trivial,rfl⟩,trivial⟩⟩⟩⟩) trivial ?_;refine s_dol (o_bslice (j:=6) (as':=[(encGAtom r_214.1)]) rfl (fun _ => by decide) ⟨rfl,trivial⟩ (.refl _) rfl rfl rfl) (.inr ⟨⟨nle,rfl⟩,⟨⟨trivial,rfl⟩,trivial⟩⟩) trivial ?_;refine s_q (.agg [(.str x_192.Name),(.own 6 0 1),(.own 5 0 0)]) rfl ⟨⟨rfl,nle,trivial⟩,⟨⟨rfl,nle,trivial⟩,⟨⟨rfl,nle,trivial⟩,trivial⟩⟩⟩ rfl<|s_dol0 (o_storebox (v:=(.agg [(.str x_192.Name),(.own 6 0 1),(.own 5 0 0)])) (y':=(.agg [(.str x_192.Name),(.own 6 0 1),(.own 5 0 0)])) rfl rfl rfl trivial ⟨rfl,nle⟩ ⟨⟨rfl,trivial⟩,⟨⟨rfl,trivial⟩,⟨⟨rfl,trivial⟩,trivial⟩⟩⟩ rfl) trivial trivial<|?_
          refine w_done ?_;obtain rfl:=os hb2;exact ⟨[],[0,1,2,3,4,6,5],_,_,rfl,rfl,⟨.refl _,⟨.refl _,⟨.refl _,⟨.refl _,⟨.refl _,⟨.refl _,trivial⟩⟩⟩⟩⟩⟩,(.cons (.refl _) (.cons (.refl _) (.cons (.refl _) (.cons (.refl _) (.cons (.box (.agg (.cons (.refl _) (.cons (.of_eq (congrArg (AV.own _ 0) (by simp))) (.cons (.of_eq (congrArg (AV.own _ 0) (by simp))) .nil))))) (.cons (.refl _) (.cons (.refl _) .nil)))))))⟩
         ·refine s_dol (o_bslice (j:=6) (as':=[]) rfl (fun _ => by decide) trivial (.refl _) rfl rfl rfl) (.inr ⟨⟨nle,rfl⟩,⟨⟨trivial,rfl⟩,⟨⟨nle,rfl⟩,⟨⟨trivial,rfl⟩,trivial⟩⟩⟩⟩) trivial ?_;refine s_q (.agg [(.str x_192.Name),(.own 5 0 1),(.own 6 0 0)]) rfl ⟨⟨rfl,nle,trivial⟩,⟨⟨rfl,nle,trivial⟩,⟨⟨rfl,nle,trivial⟩,trivial⟩⟩⟩ rfl<|s_dol0 (o_storebox (v:=(.agg [(.str x_192.Name),(.own 5 0 1),(.own 6 0 0)])) (y':=(.agg [(.str x_192.Name),(.own 5 0 1),(.own 6 0 0)])) rfl rfl rfl trivial ⟨rfl,nle⟩ ⟨⟨rfl,trivial⟩,⟨⟨rfl,trivial⟩,⟨⟨rfl,trivial⟩,trivial⟩⟩⟩ rfl) trivial trivial<|w_done<|?_;obtain rfl:=os hb2;exact ⟨[],[0,1,2,3,4,5,6],_,_,rfl,rfl,⟨.refl _,⟨.refl _,⟨.refl _,⟨.refl _,⟨.refl _,⟨.refl _,trivial⟩⟩⟩⟩⟩⟩,(.cons (.refl _) (.cons (.refl _) (.cons (.refl _) (.cons (.refl _) (.cons (.box (.agg (.cons (.refl _) (.cons (.of_eq (congrArg (AV.own _ 0) (by simp))) (.cons (.of_eq (congrArg (AV.own _ 0) (by simp))) .nil))))) (.cons (.refl _) (.cons (.refl _) .nil)))))))⟩
       ·refine s_dol (o_callh (v:=(encGAtom r_214.1)) (h2:=[.box 3 (.agg [(.lst 1 (r_214.2.Code.map enc_u8)),(.int .i64 r_214.2.At),(.int .i64 r_214.2.Seed)]),.box 4 (.agg [(.str x_6.Name),(.lst 8 (x_6.Columns.map encGColumn)),(.lst 1 (x_6.Unique.map encI)),(.bool x_6.Root)]),.row 3 (out_125.map encGSet),.box 8 (.agg [(.str x_192.Name),(.int .i64 x_192.Kind),(.int .i64 x_192.Min),(.int .i64 x_192.Max),(.int .i64 x_192.Low),(.int .i64 x_192.High),(.str x_192.Ref),(.bool x_192.Strong)]),.row 1 ([].map AV.str)]) [] [0] (fun _ => rfl) (w_spec_l00Src_atom _ _ _ er215) rfl (.refl _) (.refl _) rfl rfl) (.inr ⟨⟨nle,rfl⟩,⟨⟨trivial,rfl⟩,trivial⟩⟩) ?_ ?_
        ·refine s_dol (o_box (j:=5) (c:=(.agg [(.str []),.nil,.nil])) rfl trivial rfl rfl) (.inr ⟨⟨nle,rfl⟩,⟨⟨trivial,rfl⟩,⟨⟨nle,rfl⟩,⟨⟨trivial,rfl⟩,trivial⟩⟩⟩⟩) trivial ?_;refine s_dol (o_callh (v:=(encGAtom r_214.1)) (h2:=[.box 3 (.agg [(.lst 1 (r_214.2.Code.map enc_u8)),(.int .i64 r_214.2.At),(.int .i64 r_214.2.Seed)]),.box 4 (.agg [(.str x_6.Name),(.lst 8 (x_6.Columns.map encGColumn)),(.lst 1 (x_6.Unique.map encI)),(.bool x_6.Root)]),.row 3 (out_125.map encGSet),.box 8 (.agg [(.str x_192.Name),(.int .i64 x_192.Kind),(.int .i64 x_192.Min),(.int .i64 x_192.Max),(.int .i64 x_192.Low),(.int .i64 x_192.High),(.str x_192.Ref),(.bool x_192.Strong)]),.row 1 ([].map AV.str),.box 3 (.agg [(.str []),.nil,.nil])]) [] [0] (fun _ => rfl) (w_spec_l00Src_atom _ _ _ er215) rfl (.refl _) (.refl _) rfl rfl) (.inr ⟨⟨nle,rfl⟩,⟨⟨trivial,rfl⟩,trivial⟩⟩) trivial ?_
         refine s_dol (o_bslice (j:=6) (as':=[(encGAtom r_214.1)]) rfl (fun _ => by decide) ⟨rfl,trivial⟩ (.refl _) rfl rfl rfl) (.inr ⟨⟨nle,rfl⟩,⟨⟨trivial,rfl⟩,trivial⟩⟩) trivial ?_;refine s_q (.agg [(.str x_192.Name),(.own 6 0 1),(.own 4 0 0)]) rfl ⟨⟨rfl,nle,trivial⟩,⟨⟨rfl,nle,trivial⟩,⟨⟨rfl,nle,trivial⟩,trivial⟩⟩⟩ rfl<|s_dol0 (o_storebox (v:=(.agg [(.str x_192.Name),(.own 6 0 1),(.own 4 0 0)])) (y':=(.agg [(.str x_192.Name),(.own 6 0 1),(.own 4 0 0)])) rfl rfl rfl trivial ⟨rfl,nle⟩ ⟨⟨rfl,trivial⟩,⟨⟨rfl,trivial⟩,⟨⟨rfl,trivial⟩,trivial⟩⟩⟩ rfl) trivial trivial<|w_done<|?_;obtain rfl:=os hb2;exact ⟨[],[0,1,2,3,5,6,4],_,_,rfl,rfl,⟨.refl _,⟨.refl _,⟨.refl _,⟨.refl _,⟨.refl _,⟨.refl _,trivial⟩⟩⟩⟩⟩⟩,(.cons (.refl _) (.cons (.refl _) (.cons (.refl _) (.cons (.refl _) (.cons (.box (.agg (.cons (.refl _) (.cons (.of_eq (congrArg (AV.own _ 0) (by simp))) (.cons (.of_eq (congrArg (AV.own _ 0) (by simp))) .nil))))) (.cons (.refl _) (.cons (.refl _) .nil)))))))⟩
        ·refine s_dol (o_bslice (j:=5) (as':=[(encGAtom r_214.1)]) rfl (fun _ => by decide) ⟨rfl,trivial⟩ (.refl _) rfl rfl rfl) (.inr ⟨⟨nle,rfl⟩,⟨⟨trivial,rfl⟩,trivial⟩⟩) ?_ ?_
         ·refine s_dol (o_box (j:=5) (c:=(.agg [(.str []),.nil,.nil])) rfl trivial rfl rfl) (.inr ⟨⟨nle,rfl⟩,⟨⟨trivial,rfl⟩,⟨⟨nle,rfl⟩,⟨⟨trivial,rfl⟩,trivial⟩⟩⟩⟩) trivial ?_;refine s_dol (o_bslice (j:=6) (as':=[(encGAtom r_214.1)]) rfl (fun _ => by decide) ⟨rfl,trivial⟩ (.refl _) rfl rfl rfl) (.inr ⟨⟨nle,rfl⟩,⟨⟨trivial,rfl⟩,trivial⟩⟩) trivial ?_;refine s_q (.agg [(.str x_192.Name),(.own 6 0 1),(.own 4 0 0)]) rfl ⟨⟨rfl,nle,trivial⟩,⟨⟨rfl,nle,trivial⟩,⟨⟨rfl,nle,trivial⟩,trivial⟩⟩⟩ rfl<|s_dol0 (o_storebox (v:=(.agg [(.str x_192.Name),(.own 6 0 1),(.own 4 0 0)])) (y':=(.agg [(.str x_192.Name),(.own 6 0 1),(.own 4 0 0)])) rfl rfl rfl trivial ⟨rfl,nle⟩ ⟨⟨rfl,trivial⟩,⟨⟨rfl,trivial⟩,⟨⟨rfl,trivial⟩,trivial⟩⟩⟩ rfl) trivial trivial<|?_
          refine w_done ?_;obtain rfl:=os hb2;exact ⟨[],[0,1,2,3,5,6,4],_,_,rfl,rfl,⟨.refl _,⟨.refl _,⟨.refl _,⟨.refl _,⟨.refl _,⟨.refl _,trivial⟩⟩⟩⟩⟩⟩,(.cons (.refl _) (.cons (.refl _) (.cons (.refl _) (.cons (.refl _) (.cons (.box (.agg (.cons (.refl _) (.cons (.of_eq (congrArg (AV.own _ 0) (by simp))) (.cons (.of_eq (congrArg (AV.own _ 0) (by simp))) .nil))))) (.cons (.refl _) (.cons (.refl _) .nil)))))))⟩
         ·refine s_q (.agg [(.str x_192.Name),(.own 5 0 1),(.own 4 0 0)]) rfl ⟨⟨rfl,nle,trivial⟩,⟨⟨rfl,nle,trivial⟩,⟨⟨rfl,nle,trivial⟩,trivial⟩⟩⟩ rfl<|s_dol (o_box (j:=6) (c:=(.agg [(.str []),.nil,.nil])) rfl trivial rfl rfl) (.inr ⟨⟨⟨⟨rfl,nle,trivial⟩,⟨⟨rfl,nle,trivial⟩,⟨⟨rfl,nle,trivial⟩,trivial⟩⟩⟩,rfl⟩,⟨⟨nle,rfl⟩,⟨⟨trivial,rfl⟩,⟨⟨nle,rfl⟩,⟨⟨trivial,rfl⟩,trivial⟩⟩⟩⟩⟩) trivial<|s_dol0 (o_storebox (v:=(.agg [(.str x_192.Name),(.own 5 0 1),(.own 4 0 0)])) (y':=(.agg [(.str x_192.Name),(.own 5 0 1),(.own 4 0 0)])) rfl rfl rfl trivial ⟨rfl,nle⟩ ⟨⟨rfl,trivial⟩,⟨⟨rfl,trivial⟩,⟨⟨rfl,trivial⟩,trivial⟩⟩⟩ rfl) trivial trivial<|w_done<|?_;obtain rfl:=os hb2;exact ⟨[],[0,1,2,3,6,5,4],_,_,rfl,rfl,⟨.refl _,⟨.refl _,⟨.refl _,⟨.refl _,⟨.refl _,⟨.refl _,trivial⟩⟩⟩⟩⟩⟩,(.cons (.refl _) (.cons (.refl _) (.cons (.refl _) (.cons (.refl _) (.cons (.box (.agg (.cons (.refl _) (.cons (.of_eq (congrArg (AV.own _ 0) (by simp))) (.cons (.of_eq (congrArg (AV.own _ 0) (by simp))) .nil))))) (.cons (.refl _) (.cons (.refl _) .nil)))))))⟩
      ·refine s_dol (o_bslice (j:=4) (as':=[(encGAtom r_214.1)]) rfl (fun _ => by decide) ⟨rfl,trivial⟩ (.refl _) rfl rfl rfl) (.inr ⟨⟨nle,rfl⟩,⟨⟨trivial,rfl⟩,trivial⟩⟩) ?_ ?_
       ·refine s_dol (o_bslice (j:=4) (as':=[]) rfl (fun _ => by decide) trivial (.refl _) rfl rfl rfl) (.inr ⟨⟨nle,rfl⟩,⟨⟨trivial,rfl⟩,⟨⟨nle,rfl⟩,⟨⟨trivial,rfl⟩,trivial⟩⟩⟩⟩) ?_ ?_
        ·refine s_dol (o_box (j:=4) (c:=(.agg [(.str []),.nil,.nil])) rfl trivial rfl rfl) (.inr ⟨⟨nle,rfl⟩,⟨⟨trivial,rfl⟩,⟨⟨nle,rfl⟩,⟨⟨trivial,rfl⟩,trivial⟩⟩⟩⟩) trivial ?_;refine s_dol (o_bslice (j:=5) (as':=[(encGAtom r_214.1)]) rfl (fun _ => by decide) ⟨rfl,trivial⟩ (.refl _) rfl rfl rfl) (.inr ⟨⟨nle,rfl⟩,⟨⟨trivial,rfl⟩,trivial⟩⟩) ?_ ?_
         ·refine s_dol (o_bslice (j:=5) (as':=[]) rfl (fun _ => by decide) trivial (.refl _) rfl rfl rfl) (.inr ⟨⟨nle,rfl⟩,⟨⟨trivial,rfl⟩,⟨⟨nle,rfl⟩,⟨⟨trivial,rfl⟩,trivial⟩⟩⟩⟩) trivial ?_;refine s_dol (o_bslice (j:=6) (as':=[(encGAtom r_214.1)]) rfl (fun _ => by decide) ⟨rfl,trivial⟩ (.refl _) rfl rfl rfl) (.inr ⟨⟨nle,rfl⟩,⟨⟨trivial,rfl⟩,trivial⟩⟩) trivial ?_;refine s_q (.agg [(.str x_192.Name),(.own 6 0 1),(.own 5 0 0)]) rfl ⟨⟨rfl,nle,trivial⟩,⟨⟨rfl,nle,trivial⟩,⟨⟨rfl,nle,trivial⟩,trivial⟩⟩⟩ rfl<|s_dol0 (o_storebox (v:=(.agg [(.str x_192.Name),(.own 6 0 1),(.own 5 0 0)])) (y':=(.agg [(.str x_192.Name),(.own 6 0 1),(.own 5 0 0)])) rfl rfl rfl trivial ⟨rfl,nle⟩ ⟨⟨rfl,trivial⟩,⟨⟨rfl,trivial⟩,⟨⟨rfl,trivial⟩,trivial⟩⟩⟩ rfl) trivial trivial<|?_
          refine w_done ?_;obtain rfl:=os hb2;exact ⟨[],[0,1,2,3,4,6,5],_,_,rfl,rfl,⟨.refl _,⟨.refl _,⟨.refl _,⟨.refl _,⟨.refl _,⟨.refl _,trivial⟩⟩⟩⟩⟩⟩,(.cons (.refl _) (.cons (.refl _) (.cons (.refl _) (.cons (.refl _) (.cons (.box (.agg (.cons (.refl _) (.cons (.of_eq (congrArg (AV.own _ 0) (by simp))) (.cons (.of_eq (congrArg (AV.own _ 0) (by simp))) .nil))))) (.cons (.refl _) (.cons (.refl _) .nil)))))))⟩
         ·refine s_dol (o_bslice (j:=6) (as':=[]) rfl (fun _ => by decide) trivial (.refl _) rfl rfl rfl) (.inr ⟨⟨nle,rfl⟩,⟨⟨trivial,rfl⟩,⟨⟨nle,rfl⟩,⟨⟨trivial,rfl⟩,trivial⟩⟩⟩⟩) trivial ?_;refine s_q (.agg [(.str x_192.Name),(.own 5 0 1),(.own 6 0 0)]) rfl ⟨⟨rfl,nle,trivial⟩,⟨⟨rfl,nle,trivial⟩,⟨⟨rfl,nle,trivial⟩,trivial⟩⟩⟩ rfl<|s_dol0 (o_storebox (v:=(.agg [(.str x_192.Name),(.own 5 0 1),(.own 6 0 0)])) (y':=(.agg [(.str x_192.Name),(.own 5 0 1),(.own 6 0 0)])) rfl rfl rfl trivial ⟨rfl,nle⟩ ⟨⟨rfl,trivial⟩,⟨⟨rfl,trivial⟩,⟨⟨rfl,trivial⟩,trivial⟩⟩⟩ rfl) trivial trivial<|w_done<|?_;obtain rfl:=os hb2;exact ⟨[],[0,1,2,3,4,5,6],_,_,rfl,rfl,⟨.refl _,⟨.refl _,⟨.refl _,⟨.refl _,⟨.refl _,⟨.refl _,trivial⟩⟩⟩⟩⟩⟩,(.cons (.refl _) (.cons (.refl _) (.cons (.refl _) (.cons (.refl _) (.cons (.box (.agg (.cons (.refl _) (.cons (.of_eq (congrArg (AV.own _ 0) (by simp))) (.cons (.of_eq (congrArg (AV.own _ 0) (by simp))) .nil))))) (.cons (.refl _) (.cons (.refl _) .nil)))))))⟩
        ·refine s_dol (o_bslice (j:=5) (as':=[(encGAtom r_214.1)]) rfl (fun _ => by decide) ⟨rfl,trivial⟩ (.refl _) rfl rfl rfl) (.inr ⟨⟨nle,rfl⟩,⟨⟨trivial,rfl⟩,trivial⟩⟩) ?_ ?_
         ·refine s_dol (o_box (j:=5) (c:=(.agg [(.str []),.nil,.nil])) rfl trivial rfl rfl) (.inr ⟨⟨nle,rfl⟩,⟨⟨trivial,rfl⟩,⟨⟨nle,rfl⟩,⟨⟨trivial,rfl⟩,trivial⟩⟩⟩⟩) trivial ?_;refine s_dol (o_bslice (j:=6) (as':=[(encGAtom r_214.1)]) rfl (fun _ => by decide) ⟨rfl,trivial⟩ (.refl _) rfl rfl rfl) (.inr ⟨⟨nle,rfl⟩,⟨⟨trivial,rfl⟩,trivial⟩⟩) trivial ?_;refine s_q (.agg [(.str x_192.Name),(.own 6 0 1),(.own 4 0 0)]) rfl ⟨⟨rfl,nle,trivial⟩,⟨⟨rfl,nle,trivial⟩,⟨⟨rfl,nle,trivial⟩,trivial⟩⟩⟩ rfl<|s_dol0 (o_storebox (v:=(.agg [(.str x_192.Name),(.own 6 0 1),(.own 4 0 0)])) (y':=(.agg [(.str x_192.Name),(.own 6 0 1),(.own 4 0 0)])) rfl rfl rfl trivial ⟨rfl,nle⟩ ⟨⟨rfl,trivial⟩,⟨⟨rfl,trivial⟩,⟨⟨rfl,trivial⟩,trivial⟩⟩⟩ rfl) trivial trivial<|?_
          refine w_done ?_;obtain rfl:=os hb2;exact ⟨[],[0,1,2,3,5,6,4],_,_,rfl,rfl,⟨.refl _,⟨.refl _,⟨.refl _,⟨.refl _,⟨.refl _,⟨.refl _,trivial⟩⟩⟩⟩⟩⟩,(.cons (.refl _) (.cons (.refl _) (.cons (.refl _) (.cons (.refl _) (.cons (.box (.agg (.cons (.refl _) (.cons (.of_eq (congrArg (AV.own _ 0) (by simp))) (.cons (.of_eq (congrArg (AV.own _ 0) (by simp))) .nil))))) (.cons (.refl _) (.cons (.refl _) .nil)))))))⟩
         ·refine s_q (.agg [(.str x_192.Name),(.own 5 0 1),(.own 4 0 0)]) rfl ⟨⟨rfl,nle,trivial⟩,⟨⟨rfl,nle,trivial⟩,⟨⟨rfl,nle,trivial⟩,trivial⟩⟩⟩ rfl<|s_dol (o_box (j:=6) (c:=(.agg [(.str []),.nil,.nil])) rfl trivial rfl rfl) (.inr ⟨⟨⟨⟨rfl,nle,trivial⟩,⟨⟨rfl,nle,trivial⟩,⟨⟨rfl,nle,trivial⟩,trivial⟩⟩⟩,rfl⟩,⟨⟨nle,rfl⟩,⟨⟨trivial,rfl⟩,⟨⟨nle,rfl⟩,⟨⟨trivial,rfl⟩,trivial⟩⟩⟩⟩⟩) trivial<|s_dol0 (o_storebox (v:=(.agg [(.str x_192.Name),(.own 5 0 1),(.own 4 0 0)])) (y':=(.agg [(.str x_192.Name),(.own 5 0 1),(.own 4 0 0)])) rfl rfl rfl trivial ⟨rfl,nle⟩ ⟨⟨rfl,trivial⟩,⟨⟨rfl,trivial⟩,⟨⟨rfl,trivial⟩,trivial⟩⟩⟩ rfl) trivial trivial<|w_done<|?_;obtain rfl:=os hb2;exact ⟨[],[0,1,2,3,6,5,4],_,_,rfl,rfl,⟨.refl _,⟨.refl _,⟨.refl _,⟨.refl _,⟨.refl _,⟨.refl _,trivial⟩⟩⟩⟩⟩⟩,(.cons (.refl _) (.cons (.refl _) (.cons (.refl _) (.cons (.refl _) (.cons (.box (.agg (.cons (.refl _) (.cons (.of_eq (congrArg (AV.own _ 0) (by simp))) (.cons (.of_eq (congrArg (AV.own _ 0) (by simp))) .nil))))) (.cons (.refl _) (.cons (.refl _) .nil)))))))⟩
       ·refine s_dol (o_bslice (j:=5) (as':=[]) rfl (fun _ => by decide) trivial (.refl _) rfl rfl rfl) (.inr ⟨⟨nle,rfl⟩,⟨⟨trivial,rfl⟩,⟨⟨nle,rfl⟩,⟨⟨trivial,rfl⟩,trivial⟩⟩⟩⟩) ?_ ?_
        ·refine s_dol (o_box (j:=5) (c:=(.agg [(.str []),.nil,.nil])) rfl trivial rfl rfl) (.inr ⟨⟨nle,rfl⟩,⟨⟨trivial,rfl⟩,⟨⟨nle,rfl⟩,⟨⟨trivial,rfl⟩,trivial⟩⟩⟩⟩) trivial ?_;refine s_dol (o_bslice (j:=6) (as':=[]) rfl (fun _ => by decide) trivial (.refl _) rfl rfl rfl) (.inr ⟨⟨nle,rfl⟩,⟨⟨trivial,rfl⟩,⟨⟨nle,rfl⟩,⟨⟨trivial,rfl⟩,trivial⟩⟩⟩⟩) trivial ?_;refine s_q (.agg [(.str x_192.Name),(.own 4 0 1),(.own 6 0 0)]) rfl ⟨⟨rfl,nle,trivial⟩,⟨⟨rfl,nle,trivial⟩,⟨⟨rfl,nle,trivial⟩,trivial⟩⟩⟩ rfl<|s_dol0 (o_storebox (v:=(.agg [(.str x_192.Name),(.own 4 0 1),(.own 6 0 0)])) (y':=(.agg [(.str x_192.Name),(.own 4 0 1),(.own 6 0 0)])) rfl rfl rfl trivial ⟨rfl,nle⟩ ⟨⟨rfl,trivial⟩,⟨⟨rfl,trivial⟩,⟨⟨rfl,trivial⟩,trivial⟩⟩⟩ rfl) trivial trivial<|?_
         refine w_done ?_;obtain rfl:=os hb2;exact ⟨[],[0,1,2,3,5,4,6],_,_,rfl,rfl,⟨.refl _,⟨.refl _,⟨.refl _,⟨.refl _,⟨.refl _,⟨.refl _,trivial⟩⟩⟩⟩⟩⟩,(.cons (.refl _) (.cons (.refl _) (.cons (.refl _) (.cons (.refl _) (.cons (.box (.agg (.cons (.refl _) (.cons (.of_eq (congrArg (AV.own _ 0) (by simp))) (.cons (.of_eq (congrArg (AV.own _ 0) (by simp))) .nil))))) (.cons (.refl _) (.cons (.refl _) .nil)))))))⟩
        ·refine s_q (.agg [(.str x_192.Name),(.own 4 0 1),(.own 5 0 0)]) rfl ⟨⟨rfl,nle,trivial⟩,⟨⟨rfl,nle,trivial⟩,⟨⟨rfl,nle,trivial⟩,trivial⟩⟩⟩ rfl<|s_dol (o_box (j:=6) (c:=(.agg [(.str []),.nil,.nil])) rfl trivial rfl rfl) (.inr ⟨⟨⟨⟨rfl,nle,trivial⟩,⟨⟨rfl,nle,trivial⟩,⟨⟨rfl,nle,trivial⟩,trivial⟩⟩⟩,rfl⟩,⟨⟨nle,rfl⟩,⟨⟨trivial,rfl⟩,⟨⟨nle,rfl⟩,⟨⟨trivial,rfl⟩,trivial⟩⟩⟩⟩⟩) trivial<|s_dol0 (o_storebox (v:=(.agg [(.str x_192.Name),(.own 4 0 1),(.own 5 0 0)])) (y':=(.agg [(.str x_192.Name),(.own 4 0 1),(.own 5 0 0)])) rfl rfl rfl trivial ⟨rfl,nle⟩ ⟨⟨rfl,trivial⟩,⟨⟨rfl,trivial⟩,⟨⟨rfl,trivial⟩,trivial⟩⟩⟩ rfl) trivial trivial<|w_done<|?_;obtain rfl:=os hb2;exact ⟨[],[0,1,2,3,6,4,5],_,_,rfl,rfl,⟨.refl _,⟨.refl _,⟨.refl _,⟨.refl _,⟨.refl _,⟨.refl _,trivial⟩⟩⟩⟩⟩⟩,(.cons (.refl _) (.cons (.refl _) (.cons (.refl _) (.cons (.refl _) (.cons (.box (.agg (.cons (.refl _) (.cons (.of_eq (congrArg (AV.own _ 0) (by simp))) (.cons (.of_eq (congrArg (AV.own _ 0) (by simp))) .nil))))) (.cons (.refl _) (.cons (.refl _) .nil)))))))⟩
     ·obtain ⟨x_209,x_210,x_211,x_212⟩:=p213
      refine awp_seq ?_
      obtain ⟨p232,hb2,hc1⟩:=ob hc1
      refine awp_cut ([(0,(.ptr 0 0 0)),(5,(.ptr 1 0 0)),(6,(.own 2 0 out_125.length)),(7,(.int .i64 (i_121:Int))),(9,(.ptr 3 0 0))],[.box 3 (.agg [(.lst 1 (p232.1.map enc_u8)),(.int .i64 p232.2.1),(.int .i64 p232.2.2.1)]),.box 4 (.agg [(.str x_6.Name),(.lst 8 (x_6.Columns.map encGColumn)),(.lst 1 (x_6.Unique.map encI)),(.bool x_6.Root)]),.row 3 (out_125.map encGSet),.box 3 (.agg [(.str x_192.Name),(.own 4 0 p232.2.2.2.1.length),(.own 5 0 p232.2.2.2.2.length)]),.row 3 (p232.2.2.2.1.map encGAtom),.row 1 (p232.2.2.2.2.map AV.str)]) ?_ ?_
      ·refine sr<|s_q (.ptr 3 0 1) rfl trivial rfl<|s_q (.int .i64 x_192.Kind) rfl nle rfl<|s_q (.bool (x_192.Kind == 4)) rfl rfl rfl<|dk<|?_
       rcases oi hb2 with ⟨c233,hb2⟩ | ⟨c233,hb2⟩
       ·refine w_condt rfl c233<|sr<|?_;refine s_do (o_bslice (j:=7) (as':=[]) rfl (fun _ => by decide) trivial (.refl _) rfl rfl rfl) ?_;refine s_q (.ptr 4 0 1) rfl trivial rfl<|s_do0 (o_storebox (v:=(.own 7 0 0)) (y':=(.agg [(.str x_192.Name),(.own 7 0 0),(.own 6 0 0)])) rfl rfl rfl trivial ⟨rfl,nle⟩ ⟨⟨rfl,trivial⟩,trivial⟩ rfl)<|dk<|sr<|?_
        obtain ⟨r_234,er235,hb2⟩:=ob hb2
        refine s_mov (.ptr 0 0 0) rfl ?_;refine s_do (o_callh (v:=(.bool r_234.1)) (h2:=[.box 3 (.agg [(.lst 1 (r_234.2.Code.map enc_u8)),(.int .i64 r_234.2.At),(.int .i64 r_234.2.Seed)]),.box 4 (.agg [(.str x_6.Name),(.lst 8 (x_6.Columns.map encGColumn)),(.lst 1 (x_6.Unique.map encI)),(.bool x_6.Root)]),.row 3 (out_125.map encGSet),.box 8 (.agg [(.str x_192.Name),(.int .i64 x_192.Kind),(.int .i64 x_192.Min),(.int .i64 x_192.Max),(.int .i64 x_192.Low),(.int .i64 x_192.High),(.str x_192.Ref),(.bool x_192.Strong)]),.box 3 (.agg [(.str x_192.Name),(.own 7 0 0),(.own 6 0 0)]),.row 3 (x_212.map encGAtom),.row 1 ([].map AV.str),.row 3 ([].map encGAtom)]) [] [0] (fun _ => rfl) (w_spec_l00Src_chance _ _ _ er235) rfl (.refl _) (.refl _) rfl rfl) ?_
        refine dk<|?_
        rcases oi hb2 with ⟨c236,hb2⟩ | ⟨c236,hb2⟩
        ·refine w_condt rfl c236<|w_reg<|?_
         obtain ⟨r_237,er238,hb2⟩:=ob hb2
         refine s_mov (.ptr 0 0 0) rfl ?_;refine s_do (o_bslice (j:=8) (as':=[(.str [112]),(.str [113])]) rfl (fun _ => by decide) ⟨rfl,⟨rfl,trivial⟩⟩ (.refl _) rfl rfl rfl) ?_;refine s_do (o_callh (v:=(.str r_237.1)) (h2:=[.box 3 (.agg [(.lst 1 (r_237.2.Code.map enc_u8)),(.int .i64 r_237.2.At),(.int .i64 r_237.2.Seed)]),.box 4 (.agg [(.str x_6.Name),(.lst 8 (x_6.Columns.map encGColumn)),(.lst 1 (x_6.Unique.map encI)),(.bool x_6.Root)]),.row 3 (out_125.map encGSet),.box 8 (.agg [(.str x_192.Name),(.int .i64 x_192.Kind),(.int .i64 x_192.Min),(.int .i64 x_192.Max),(.int .i64 x_192.Low),(.int .i64 x_192.High),(.str x_192.Ref),(.bool x_192.Strong)]),.box 3 (.agg [(.str x_192.Name),(.own 7 0 0),(.own 6 0 0)]),.row 3 (x_212.map encGAtom),.row 1 ([].map AV.str),.row 3 ([].map encGAtom),.dead]) [false,true] [0] (fun h => absurd (show false = true from h) (by decide)) (w_spec_l00Src_pick _ _ _ er238) rfl (.cons (.refl _) (.cons (.of_eq (congrArg (AV.lst _) (tko [[112],[113]]))) .nil)) (.refl _) rfl rfl) ?_
         refine s_do (o_bslice (j:=9) (as':=[(.str r_237.1)]) rfl (fun _ => by decide) ⟨rfl,trivial⟩ (.refl _) rfl rfl rfl) ?_;refine s_q (.ptr 4 0 2) rfl trivial rfl<|s_do0 (o_storebox (v:=(.own 9 0 1)) (y':=(.agg [(.str x_192.Name),(.own 7 0 0),(.own 9 0 1)])) rfl rfl rfl trivial ⟨rfl,nle⟩ ⟨⟨rfl,trivial⟩,trivial⟩ rfl)<|w_done<|?_;obtain rfl:=os hb2;exact ⟨[],[0,1,2,4,7,9],_,_,rfl,rfl,⟨.refl _,⟨.refl _,⟨.refl _,⟨.refl _,⟨.refl _,trivial⟩⟩⟩⟩⟩,(.cons (.refl _) (.cons (.refl _) (.cons (.refl _) (.cons (.box (.agg (.cons (.refl _) (.cons (.of_eq (congrArg (AV.own _ 0) (by simp))) (.cons (.of_eq (congrArg (AV.own _ 0) (by simp))) .nil))))) (.cons (.refl _) (.cons (.refl _) .nil))))))⟩
        ·refine w_condf rfl (bf c236)<|sr<|?_
         obtain ⟨r_239,er240,hb2⟩:=ob hb2
         refine s_mov (.ptr 0 0 0) rfl ?_;refine s_do (o_callh (v:=(.bool r_239.1)) (h2:=[.box 3 (.agg [(.lst 1 (r_239.2.Code.map enc_u8)),(.int .i64 r_239.2.At),(.int .i64 r_239.2.Seed)]),.box 4 (.agg [(.str x_6.Name),(.lst 8 (x_6.Columns.map encGColumn)),(.lst 1 (x_6.Unique.map encI)),(.bool x_6.Root)]),.row 3 (out_125.map encGSet),.box 8 (.agg [(.str x_192.Name),(.int .i64 x_192.Kind),(.int .i64 x_192.Min),(.int .i64 x_192.Max),(.int .i64 x_192.Low),(.int .i64 x_192.High),(.str x_192.Ref),(.bool x_192.Strong)]),.box 3 (.agg [(.str x_192.Name),(.own 7 0 0),(.own 6 0 0)]),.row 3 (x_212.map encGAtom),.row 1 ([].map AV.str),.row 3 ([].map encGAtom)]) [] [0] (fun _ => rfl) (w_spec_l00Src_chance _ _ _ er240) rfl (.refl _) (.refl _) rfl rfl) ?_
         refine dk<|?_
         rcases oi hb2 with ⟨c241,hb2⟩ | ⟨c241,hb2⟩
         ·refine w_condt rfl c241<|w_reg<|?_
          obtain ⟨r_242,er243,hb2⟩:=ob hb2
          refine s_mov (.ptr 0 0 0) rfl ?_;refine s_do (o_callh (v:=(.own 8 0 r_242.1.length)) (h2:=[.box 3 (.agg [(.lst 1 (r_242.2.Code.map enc_u8)),(.int .i64 r_242.2.At),(.int .i64 r_242.2.Seed)]),.box 4 (.agg [(.str x_6.Name),(.lst 8 (x_6.Columns.map encGColumn)),(.lst 1 (x_6.Unique.map encI)),(.bool x_6.Root)]),.row 3 (out_125.map encGSet),.box 8 (.agg [(.str x_192.Name),(.int .i64 x_192.Kind),(.int .i64 x_192.Min),(.int .i64 x_192.Max),(.int .i64 x_192.Low),(.int .i64 x_192.High),(.str x_192.Ref),(.bool x_192.Strong)]),.box 3 (.agg [(.str x_192.Name),(.own 7 0 0),(.own 6 0 0)]),.row 3 (x_212.map encGAtom),.row 1 ([].map AV.str),.row 3 ([].map encGAtom),.row 3 (r_242.1.map encGAtom)]) [] [0] (fun _ => rfl) (w_spec_l00Src_datum _ _ _ er243) rfl (.refl _) (.refl _) rfl rfl) ?_
          refine s_q (.ptr 4 0 1) rfl trivial rfl<|s_do0 (o_storebox (v:=(.own 8 0 r_242.1.length)) (y':=(.agg [(.str x_192.Name),(.own 8 0 r_242.1.length),(.own 6 0 0)])) rfl rfl rfl trivial ⟨rfl,nle⟩ ⟨⟨rfl,trivial⟩,trivial⟩ rfl)<|w_done<|?_;obtain rfl:=os hb2;exact ⟨[],[0,1,2,4,8,6],_,_,rfl,rfl,⟨.refl _,⟨.refl _,⟨.refl _,⟨.refl _,⟨.refl _,trivial⟩⟩⟩⟩⟩,(.refl _)⟩
         ·refine w_condf rfl (bf c241)<|w_skip<|?_;obtain rfl:=os hb2;exact ⟨[],[0,1,2,4,7,6],_,_,rfl,rfl,⟨.refl _,⟨.refl _,⟨.refl _,⟨.refl _,⟨.refl _,trivial⟩⟩⟩⟩⟩,(.cons (.refl _) (.cons (.refl _) (.cons (.refl _) (.cons (.box (.agg (.cons (.refl _) (.cons (.of_eq (congrArg (AV.own _ 0) (by simp))) (.cons (.refl _) .nil))))) (.cons (.refl _) (.cons (.refl _) .nil))))))⟩
       ·refine w_condf rfl (bf c233)<|w_skip<|?_;obtain rfl:=os hb2;exact ⟨[],[0,1,2,4,5,6],_,_,rfl,rfl,⟨.refl _,⟨.refl _,⟨.refl _,⟨.refl _,⟨.refl _,trivial⟩⟩⟩⟩⟩,(.refl _)⟩
      ·obtain ⟨x_227,x_228,x_229,x_230,x_231⟩:=p232
       refine w_reg ?_
       obtain ⟨g244,hc1⟩:=og hc1
       refine s_mov (.own 2 0 out_125.length) rfl<|s_q (.agg [(.str x_192.Name),(.own 4 0 x_230.length),(.own 5 0 x_231.length)]) rfl nle rfl<|?_;refine s_do (o_bslice (j:=6) (as':=[(encGSet (⟨x_192.Name,x_230,x_231⟩:GSet))]) rfl (fun _ => by decide) ⟨rfl,trivial⟩ (.cons (.agg (.cons (.refl _) (.cons (.of_eq (congrArg (AV.lst _) (tk (enc:=encGAtom) x_230))) (.cons (.of_eq (congrArg (AV.lst _) (tk (enc:=AV.str) x_231))) .nil)))) .nil) rfl rfl rfl) ?_
       refine s_do (o_appendd (j:=7) (L:=((out_125 ++ [(⟨x_192.Name,x_230,x_231⟩:GSet)]).map encGSet)) (len:=(out_125 ++ [(⟨x_192.Name,x_230,x_231⟩:GSet)]).length) rfl true rfl rfl (fun h => Bool.noConfusion h) (fun _ _ h => (ownl (show AV.own _ _ _ = AV.lst _ _ from h)).elim) (by decide) (apoc (enc:=encGSet) out_125 [(⟨x_192.Name,x_230,x_231⟩:GSet)] _ (by rfl)) (by simp <;> omega) g244 rfl rfl) ?_
       refine s_mov (.own 7 0 ((out_125 ++ [(⟨x_192.Name,x_230,x_231⟩:GSet)]).length)) rfl<|w_done<|k_blk<|k_seq<|w_reg<|s_mov (.int .i64 (i_121:Int)) rfl<|s_q (.int .i64 (w64 ((i_121:Int) + 1))) rfl rfl rfl<|s_mov (.int .i64 (w64 ((i_121:Int) + 1))) rfl<|w_done<|?_;exact k_loopn ⟨((i_121 + 1),x_227,x_228,x_229,out_125 ++ [(⟨x_192.Name,x_230,x_231⟩:GSet)]),hc1⟩ (mul hlt186) ⟨[],[0,1,7],_,_,rfl,rfl,⟨.refl _,⟨.refl _,⟨.refl _,⟨.of_eq (congrArg (AV.int _) (w64_incr hlt186 hl194)),trivial⟩⟩⟩⟩,(.refl _)⟩
 ·obtain ⟨x_181,x_182,x_183,out_184⟩:=p185
  refine sr<|s_mov (.own 1 0 out_184.length) rfl<|s_mov (.own 1 0 out_184.length) rfl<|dk<|w_ret<|?_;obtain rfl:=os hf;exact r_heap [] [0,1] rfl ⟨trivial,trivial⟩ rfl (.refl _) (.refl _)

/- spec.SetsOf -/
def c16:ACode :=
 (.seq (.reg (tm 4 (.c .nil) .done))
 (.seq (.reg (tm 7 (.t 0) (tq 8 (.call 27 [(.t 7)]) (tm 9 (.t 1) (tq 10 (.call 38 [(.t 8),(.t 9)]) (tm 5 (.t 10) .done))))))
 (.seq (.seq (.reg (tm 6 (.c (.int .i64 0)) .done))
 (.block 0 (.loop (.seq (.seq (.reg (tm 11 (.t 6) (tm 12 (.t 5) (tq 13 (.len (.t 12)) (tq 14 (.bin .lss (.t 11) (.t 13)) .done)))))
 (.cond (.t 14) .skip
 (.exit 0)))
 (.seq (.block 1 (.reg (tm 17 (.t 5) (tm 18 (.t 6) (tq 19 (.bslice 1 []) (tq 20 (.iaddr 3 (.t 17) (.t 18)) (tq 21 (.faddr 2 (.t 20)) (.q ⟨none,none,.store 1 (.t 21) (.t 19)⟩
 .done))))))))
 (.reg (tm 15 (.t 6) (tq 16 (.bin .add (.t 15) (.c (.int .i64 1))) (tm 6 (.t 16) .done)))))))))
 (.cut (.seq (.reg (tm 22 (.t 5) (tm 4 (.t 22) .done)))
 .ret)))))
theorem fc16:fcomp Try.prog Try.f16 = some (c16.erase,[.mov (.t 4)],23):=by kernel_rfl
def spec_SetsOf_L1 :Nat → Int → (List GSet) → Option (List GSet)
  | 0,_,_ => none
  | k + 1,i_39,out_40 =>
    if (decide (i_39 < (out_40.length:Int))) then
    if (0:Int) ≤ i_39 ∧ i_39 < (out_40.length:Int) then
    (out_40[(0 + i_39.toNat)]?).bind fun x_51 =>
    spec_SetsOf_L1 k (w64 (i_39 + 1)) (out_40.set (0 + i_39.toNat) (⟨x_51.Column,x_51.Value,[]⟩:GSet))
    else none
    else
    some out_40

def spec_SetsOf (code_1:(List Int)) (table_2:Int):Option (List GSet) :=
    (spec_l00Source code_1).bind fun r_3 =>
    (spec_l00Src_sets table_2 r_3).bind fun r_5 =>
    (spec_SetsOf_L1 FUEL 0 r_5.1).bind fun out_46 =>
    some out_46
theorem w_spec_SetsOf (code_1:(List Int)) (table_2:Int) (r:(List GSet)) (hf:spec_SetsOf code_1 table_2 = some r):CallOK Try.prog 16 .fresh [(.lst 1 (code_1.map enc_u8)),(.int .i64 table_2)] (.lst 3 (r.map encGSet)):=by
 refine CallOK.of_awp mixed Try.func16 fc16 nle ?_;rw [argT_eq];unfold spec_SetsOf at hf;unfold c16;refine (show awp Try.prog true 0 _ (ofL [(0,(.lst 1 (code_1.map enc_u8))),(1,(.int .i64 table_2))]) [] _ from ?_);refine sr<|s_mov .nil rfl<|dk<|sr<|?_
 obtain ⟨r_3,er4,hf⟩:=ob hf
 obtain ⟨r_5,er6,hf⟩:=ob hf
 refine s_mov (.lst 1 (code_1.map enc_u8)) rfl ?_;refine s_do (o_callh (v:=(.ptr 0 0 0)) (h2:=[.box 3 (.agg [(.lst 1 (r_3.Code.map enc_u8)),(.int .i64 r_3.At),(.int .i64 r_3.Seed)])]) [] [] (fun _ => rfl) (w_spec_l00Source _ _ er4) rfl (.refl _) (.refl _) rfl rfl) ?_;refine s_mov (.int .i64 table_2) rfl ?_;refine s_do (o_callh (v:=(.own 1 0 r_5.1.length)) (h2:=[.box 3 (.agg [(.lst 1 (r_5.2.Code.map enc_u8)),(.int .i64 r_5.2.At),(.int .i64 r_5.2.Seed)]),.row 3 (r_5.1.map encGSet)]) [] [0] (fun _ => rfl) (w_spec_l00Src_sets _ _ _ er6) rfl (.refl _) (.refl _) rfl rfl) ?_;refine s_mov (.own 1 0 r_5.1.length) rfl<|dk<|awp_seq<|sr<|s_mov (.int .i64 0) rfl<|dk<|?_
 obtain ⟨out_46,hb1,hf⟩:=ob hf
 refine awp_cut ([(5,(.own 0 0 out_46.length))],[.row 3 (out_46.map encGSet)]) ?_ ?_
 ·refine awp_loop (X:={q:(Nat × Int × (List GSet)) // spec_SetsOf_L1 q.1 q.2.1 q.2.2 = some out_46}) (fun q => ([(5,(.own 0 0 q.1.2.2.length)),(6,(.int .i64 q.1.2.1))],[.row 3 (q.1.2.2.map encGSet)])) (fun q => q.1.1) ⟨(FUEL,0,r_5.1),hb1⟩ ⟨[],[1],_,_,rfl,rfl,⟨.refl _,⟨.refl _,trivial⟩⟩,(.refl _)⟩ ?_
  rintro ⟨⟨k,i_39,out_40⟩,hc1⟩
  have hc1:spec_SetsOf_L1 k i_39 out_40 = some out_46:=hc1
  refine (show awp Try.prog true 0 _ (ofL [(5,(.own 0 0 out_40.length)),(6,(.int .i64 i_39))]) [.row 3 (out_40.map encGSet)] _ from ?_)
  rcases k with _ | k
  ·rw [spec_SetsOf_L1.eq_1] at hc1
   cases hc1
  ·rw [spec_SetsOf_L1.eq_2] at hc1;refine awp_seq<|sr<|s_mov (.int .i64 i_39) rfl<|s_mov (.own 0 0 out_40.length) rfl<|s_dof (o_lenown rfl rfl) fun hl48 => s_q (.bool (decide (i_39 < (out_40.length:Int)))) rfl rfl rfl<|dk<|?_
   rcases oi hc1 with ⟨c49,hc1⟩ | ⟨c49,hc1⟩
   ·refine w_condt rfl c49<|w_skip<|k_seq<|awp_seq<|w_blk<|w_reg<|?_
    obtain ⟨g50,hc1⟩:=og hc1
    obtain ⟨x_51,ex52,hc1⟩:=ob hc1
    refine s_mov (.own 0 0 out_40.length) rfl<|s_mov (.int .i64 i_39) rfl<|?_;refine s_do (o_bslice (j:=1) (as':=[]) rfl (fun _ => by decide) trivial (.refl _) rfl rfl rfl) ?_;refine s_do (o_iaddrown rfl rfl g50.1 g50.2 rfl rfl)<|s_q (.ptr 0 (0 + i_39.toNat) 2) rfl trivial rfl<|?_
    refine s_do0 (o_storerow (v':=(.lst 1 ([].map AV.str))) (e':=(⟨x_51.Column,x_51.Value,[]⟩:GSet)) rfl rfl ex52 rfl rfl (by first | (simp only [tk,tko,List.take_length];done) | rfl | simp) (by decide) (fun _ => by decide) ⟨rfl,nle⟩ (.refl _) rfl) ?_
    refine w_done<|k_blk<|k_seq<|w_reg<|s_mov (.int .i64 i_39) rfl<|s_q (.int .i64 (w64 (i_39 + 1))) rfl rfl rfl<|s_mov (.int .i64 (w64 (i_39 + 1))) rfl<|w_done<|?_;exact k_loopn ⟨(k,w64 (i_39 + 1),out_40.set (0 + i_39.toNat) (⟨x_51.Column,x_51.Value,[]⟩:GSet)),hc1⟩ (Nat.lt_succ_self _) ⟨[],[0],_,_,rfl,rfl,⟨.of_eq (congrArg (AV.own _ 0) (by simp)),⟨.refl _,trivial⟩⟩,(.refl _)⟩
   ·refine w_condf rfl (bf c49)<|w_exit<|k_seqx<|k_loopx<|k_blkx<|?_;obtain rfl:=os hc1;exact ⟨[],[0],_,_,rfl,rfl,⟨.refl _,trivial⟩,(.refl _)⟩
 ·refine sr<|s_mov (.own 0 0 out_46.length) rfl<|s_mov (.own 0 0 out_46.length) rfl<|dk<|w_ret<|?_;obtain rfl:=os hf;exact r_fresh ⟨trivial,trivial⟩ rfl (by decide) (.of_eq (congrArg (AV.lst _) (tk (enc:=encGSet) out_46)))

/- slices.IndexFunc[[]impl.Set,impl.Set] -/
def c78:ACode :=
 (.seq (.reg (tm 4 (.c (.int .i64 0)) .done))
 (.seq (.seq (.reg (tm 6 (.t 0) (tq 7 (.len (.t 6)) (tm 8 (.c (.int .i64 0)) .done))))
 (.block 0 (.loop (.seq (.reg (tq 9 (.bin .lss (.t 8) (.t 7)) .done))
 (.seq (.cond (.t 9) .skip
 (.exit 0))
 (.seq (.block 1 (.seq (.reg (tm 10 (.t 8) (tm 5 (.t 10) .done)))
 (.seq (.reg (tm 11 (.t 1) (tm 12 (.t 0) (tm 13 (.t 5) (tq 14 (.iaddr 3 (.t 12) (.t 13)) (tq 15 (.load 3 true (.t 14)) (tq 16 (.calv (.t 11) [(.t 15)]) .done)))))))
 (.cond (.t 16) (.seq (.reg (tm 17 (.t 5) (tm 4 (.t 17) .done)))
 .ret)
 .skip))))
 (.reg (tq 18 (.bin .add (.t 8) (.c (.int .i64 1))) (tm 8 (.t 18) .done)))))))))
 (.cut (.seq (.reg (tq 4 (.mov (.c (.int .i64 (-1)))) .done))
 .ret))))
theorem fc78:fcomp Try.prog Try.f78 = some (c78.erase,[.mov (.t 4)],19):=by kernel_rfl
def slices_IndexFunc_impl_Set_impl_Set_L1 (f_2:(GSet → Option Bool)):List GSet → Nat → Option (Fl Int Unit)
  | [],s8_17 =>
    some (.go ())
  | x_31 :: xs,s8_17 =>
    (f_2 x_31).bind fun r_32 =>
    if r_32 then
    some (.ret (s8_17:Int))
    else
    slices_IndexFunc_impl_Set_impl_Set_L1 f_2 xs (s8_17 + 1)

def slices_IndexFunc_impl_Set_impl_Set (s_1:(List GSet)) (f_2:(GSet → Option Bool)):Option Int :=
    (slices_IndexFunc_impl_Set_impl_Set_L1 f_2 s_1 0).bind fun q => (match q with
    | .ret r => some r
    | .go _ =>
    some (-1))
theorem w_slices_IndexFunc_impl_Set_impl_Set (s_1:(List GSet)) (f_2:(GSet → Option Bool)) (r:Int) (hf:slices_IndexFunc_impl_Set_impl_Set s_1 f_2 = some r) (kf_f_2:Nat) (cf_f_2:List AV) (okf_f_2:okFn Try.prog kf_f_2 = true) (hcf_f_2:∀ h p,closeWs h p cf_f_2 = some cf_f_2) (hrf_f_2:∀ f,rens f cf_f_2 = cf_f_2) (hpf_f_2:∀ a0 r,f_2 a0 = some r → CallOK Try.prog kf_f_2 .flat ([(encGSet a0)] ++ cf_f_2) (.bool r)):CallOK Try.prog 78 .flat [(.lst 3 (s_1.map encGSet)),(.fn kf_f_2 cf_f_2)] (.int .i64 r):=by
 refine CallOK.of_awp mixed Try.func78 fc78 nle ?_;rw [argT_eq];unfold slices_IndexFunc_impl_Set_impl_Set at hf;unfold c78;refine (show awp Try.prog false 0 _ (ofL [(0,(.lst 3 (s_1.map encGSet))),(1,(.fn kf_f_2 cf_f_2))]) [] _ from ?_);refine sr<|s_mov (.int .i64 0) rfl<|dk<|awp_seq<|sr<|s_mov (.lst 3 (s_1.map encGSet)) rfl<|s_dof (o_len (enc:=encGSet) rfl) fun hl3 => s_mov (.int .i64 0) rfl<|dk<|?_
 obtain ⟨p24,hb1,hf⟩:=ob hf
 refine awp_cutx (X:={q:Unit // p24 = .go q}) (fun q => ([],[])) ?_ ?_
 ·refine awp_loop (X:={q:Nat // slices_IndexFunc_impl_Set_impl_Set_L1 f_2 (s_1.drop q) q = some p24}) (fun q => ([(0,(.lst 3 (s_1.map encGSet))),(1,(.fn kf_f_2 cf_f_2)),(7,(.int .i64 (s_1.length:Int))),(8,(.int .i64 (q.1:Int)))],[])) (fun q => s_1.length - q.1) ⟨0,hb1⟩ ⟨[],[],_,_,rfl,rfl,⟨.refl _,⟨.of_eq (congrArg (AV.fn _) (hrf_f_2 _)),⟨.refl _,⟨.refl _,trivial⟩⟩⟩⟩,(.refl _)⟩ ?_
  rintro ⟨s8_17,hc1⟩
  have hc1:slices_IndexFunc_impl_Set_impl_Set_L1 f_2 (s_1.drop s8_17) s8_17 = some p24:=hc1
  refine (show awp Try.prog false 0 _ (ofL [(0,(.lst 3 (s_1.map encGSet))),(1,(.fn kf_f_2 cf_f_2)),(7,(.int .i64 (s_1.length:Int))),(8,(.int .i64 (s8_17:Int)))]) [] _ from ?_)
  rcases dropc s_1 s8_17 with ⟨hie27,hd30⟩ | ⟨hlt25,x_31,hx26,hd30⟩
  ·rw [hd30,slices_IndexFunc_impl_Set_impl_Set_L1.eq_1] at hc1
   have hq29:=dlf hie27
   refine sr<|s_q (.bool (decide ((s8_17:Int) < (s_1.length:Int)))) rfl rfl rfl<|dk<|awp_seq<|w_condf rfl hq29<|w_exit<|k_seqx<|k_loopx<|k_blkx<|?_;obtain rfl:=os hc1;exact k_cutn ⟨_,rfl⟩ ⟨[],[],_,_,rfl,rfl,trivial,(.refl _)⟩
  ·rw [hd30,slices_IndexFunc_impl_Set_impl_Set_L1.eq_2] at hc1
   have hq29:=dlt hlt25
   refine sr<|s_q (.bool (decide ((s8_17:Int) < (s_1.length:Int)))) rfl rfl rfl<|dk<|awp_seq<|w_condt rfl hq29<|w_skip<|k_seq<|awp_seq<|w_blk<|sr<|s_mov (.int .i64 (s8_17:Int)) rfl<|s_mov (.int .i64 (s8_17:Int)) rfl<|dk<|sr<|?_
   obtain ⟨r_32,er33,hc1⟩:=ob hc1
   refine s_mov (.fn kf_f_2 cf_f_2) rfl<|s_mov (.lst 3 (s_1.map encGSet)) rfl<|s_mov (.int .i64 (s8_17:Int)) rfl<|s_do (o_iaddrn (enc:=encGSet) rfl rfl hx26)<|s_q (encGSet x_31) rfl nle rfl<|s_do (o_calvp (v:=(.bool r_32)) rfl okf_f_2 hcf_f_2 (hpf_f_2 _ _ er33) rfl (.refl _) rfl)<|dk<|?_
   rcases oi hc1 with ⟨c34,hc1⟩ | ⟨c34,hc1⟩
   ·refine w_condt rfl c34<|sr<|s_mov (.int .i64 (s8_17:Int)) rfl<|s_mov (.int .i64 (s8_17:Int)) rfl<|dk<|w_ret<|?_;obtain rfl:=os hc1;obtain rfl:=os hf;exact r_flat ⟨trivial,trivial⟩ rfl (.refl _)
   ·refine w_condf rfl (bf c34)<|w_skip<|k_blk<|k_seq<|w_reg<|s_q (.int .i64 (w64 ((s8_17:Int) + 1))) rfl rfl rfl<|s_mov (.int .i64 (w64 ((s8_17:Int) + 1))) rfl<|w_done<|?_;exact k_loopn ⟨(s8_17 + 1),hc1⟩ (mul hlt25) ⟨[],[],_,_,rfl,rfl,⟨.refl _,⟨.of_eq (congrArg (AV.fn _) (hrf_f_2 _)),⟨.refl _,⟨.of_eq (congrArg (AV.int _) (w64_incr hlt25 hl3)),trivial⟩⟩⟩⟩,(.refl _)⟩
 ·rintro ⟨_,rfl⟩
  refine sr<|s_mov (.int .i64 (-1)) rfl<|dk<|w_ret<|?_;obtain rfl:=os hf;exact r_flat ⟨trivial,trivial⟩ rfl (.refl _)

/- slices.ContainsFunc[[]impl.Set,impl.Set] -/
def c39:ACode :=
 (.seq (.reg (tm 4 (.c (.bool false)) .done))
 (.seq (.reg (tm 5 (.t 0) (tm 6 (.t 1) (tq 7 (.call 78 [(.t 5),(.t 6)]) (tq 8 (.bin .geq (.t 7) (.c (.int .i64 0))) (tm 4 (.t 8) .done))))))
 .ret))
theorem fc39:fcomp Try.prog Try.f39 = some (c39.erase,[.mov (.t 4)],9):=by kernel_rfl
def slices_ContainsFunc_impl_Set_impl_Set (s_1:(List GSet)) (f_2:(GSet → Option Bool)):Option Bool :=
    (slices_IndexFunc_impl_Set_impl_Set s_1 f_2).bind fun r_3 =>
    some (decide (r_3 ≥ 0))
theorem w_slices_ContainsFunc_impl_Set_impl_Set (s_1:(List GSet)) (f_2:(GSet → Option Bool)) (r:Bool) (hf:slices_ContainsFunc_impl_Set_impl_Set s_1 f_2 = some r) (kf_f_2:Nat) (cf_f_2:List AV) (okf_f_2:okFn Try.prog kf_f_2 = true) (hcf_f_2:∀ h p,closeWs h p cf_f_2 = some cf_f_2) (hrf_f_2:∀ f,rens f cf_f_2 = cf_f_2) (hpf_f_2:∀ a0 r,f_2 a0 = some r → CallOK Try.prog kf_f_2 .flat ([(encGSet a0)] ++ cf_f_2) (.bool r)):CallOK Try.prog 39 .flat [(.lst 3 (s_1.map encGSet)),(.fn kf_f_2 cf_f_2)] (.bool r):=by
 refine CallOK.of_awp mixed Try.func39 fc39 nle ?_;rw [argT_eq];unfold slices_ContainsFunc_impl_Set_impl_Set at hf;unfold c39;refine (show awp Try.prog false 0 _ (ofL [(0,(.lst 3 (s_1.map encGSet))),(1,(.fn kf_f_2 cf_f_2))]) [] _ from ?_);refine sr<|s_mov (.bool false) rfl<|dk<|sr<|?_
 obtain ⟨r_3,er4,hf⟩:=ob hf
 refine s_mov (.lst 3 (s_1.map encGSet)) rfl<|s_mov (.fn kf_f_2 cf_f_2) rfl<|s_do (o_call (w_slices_IndexFunc_impl_Set_impl_Set _ _ _ er4 kf_f_2 cf_f_2 okf_f_2 hcf_f_2 hrf_f_2 hpf_f_2) (cls_cons rfl (cls_cons (cls_fn hcf_f_2) rfl)) (.refl _) rfl)<|s_q (.bool (decide (r_3 ≥ 0))) rfl rfl rfl<|s_mov (.bool (decide (r_3 ≥ 0))) rfl<|dk<|w_ret<|?_;obtain rfl:=os hf;exact r_flat ⟨trivial,trivial⟩ rfl (.refl _)

/- impl.SetRow$1 -/
def c40:ACode :=
 (.seq (.reg (tq 1 (.box 3 (.t 0)) (tm 2 (.c (.bool false)) .done)))
 (.seq (.reg (tq 3 (.faddr 2 (.t 1)) (tq 4 (.load 1 false (.t 3)) (tq 5 (.len (.t 4)) (tq 6 (.bin .gtr (.t 5) (.c (.int .i64 0))) (tm 2 (.t 6) .done))))))
 .ret))
theorem fc40:fcomp Try.prog Try.f40 = some (c40.erase,[.mov (.t 2)],7):=by kernel_rfl
def impl_SetRow_1 (x_1:GSet):Option Bool :=
    some (decide ((x_1.Names.length:Int) > 0))
theorem w_impl_SetRow_1 (x_1:GSet) (r:Bool) (hf:impl_SetRow_1 x_1 = some r):CallOK Try.prog 40 .flat [(encGSet x_1)] (.bool r):=by
  refine CallOK.of_awp mixed Try.func40 fc40 nle ?_
  rw [argT_eq]
  unfold impl_SetRow_1 at hf
  unfold c40
  refine (show awp Try.prog false 0 _ (ofL [(0,(encGSet x_1))]) [] _ from ?_)
  refine awp_seq ?_
  refine w_reg ?_
  refine s_do (o_box (j:=0) (c:=(.agg [(.str x_1.Column),(.lst 3 (x_1.Value.map encGAtom)),(.lst 1 (x_1.Names.map AV.str))])) rfl trivial rfl rfl) ?_
  refine s_do (o_mov (.bool false) rfl) ?_
  refine w_done ?_
  refine k_seq ?_
  refine awp_seq ?_
  refine w_reg ?_
  refine s_do (o_q (.ptr 0 0 2) rfl trivial rfl) ?_
  refine s_do (o_q (.lst 1 (x_1.Names.map AV.str)) rfl nle rfl) ?_
  refine s_dof (o_len (enc:=AV.str) rfl) fun hl2 => ?_
  refine s_do (o_q (.bool (decide ((x_1.Names.length:Int) > 0))) rfl rfl rfl) ?_
  refine s_do (o_mov (.bool (decide ((x_1.Names.length:Int) > 0))) rfl) ?_
  refine w_done ?_
  refine k_seq ?_
  refine w_ret ?_
  obtain rfl:=os hf
  exact r_flat ⟨trivial,trivial⟩ rfl (.refl _)

/- impl.isList[impl.Set] -/
def c41:ACode :=
 (.seq (.reg (tm 2 (.c (.bool false)) .done))
 (.seq (.reg (tm 3 (.t 0) (tq 4 (.len (.t 3)) (tq 5 (.bin .leq (.t 4) (.c (.int .i64 4096))) (tm 2 (.t 5) .done)))))
 .ret))
theorem fc41:fcomp Try.prog Try.f41 = some (c41.erase,[.mov (.t 2)],6):=by kernel_rfl
def impl_isList_impl_Set (list_1:(List GSet)):Option Bool :=
    some (decide ((list_1.length:Int) ≤ 4096))
theorem w_impl_isList_impl_Set (list_1:(List GSet)) (r:Bool) (hf:impl_isList_impl_Set list_1 = some r):CallOK Try.prog 41 .flat [(.lst 3 (list_1.map encGSet))] (.bool r):=by
  refine CallOK.of_awp mixed Try.func41 fc41 nle ?_
  rw [argT_eq]
  unfold impl_isList_impl_Set at hf
  unfold c41
  refine (show awp Try.prog false 0 _ (ofL [(0,(.lst 3 (list_1.map encGSet)))]) [] _ from ?_)
  refine awp_seq ?_
  refine w_reg ?_
  refine s_do (o_mov (.bool false) rfl) ?_
  refine w_done ?_
  refine k_seq ?_
  refine awp_seq ?_
  refine w_reg ?_
  refine s_do (o_mov (.lst 3 (list_1.map encGSet)) rfl) ?_
  refine s_dof (o_len (enc:=encGSet) rfl) fun hl2 => ?_
  refine s_do (o_q (.bool (decide ((list_1.length:Int) ≤ 4096))) rfl rfl rfl) ?_
  refine s_do (o_mov (.bool (decide ((list_1.length:Int) ≤ 4096))) rfl) ?_
  refine w_done ?_
  refine k_seq ?_
  refine w_ret ?_
  obtain rfl:=os hf
  exact r_flat ⟨trivial,trivial⟩ rfl (.refl _)

/- slices.IndexFunc[[]string,string] -/
def c122:ACode :=
 (.seq (.reg (tm 4 (.c (.int .i64 0)) .done))
 (.seq (.seq (.reg (tm 6 (.t 0) (tq 7 (.len (.t 6)) (tm 8 (.c (.int .i64 0)) .done))))
 (.block 0 (.loop (.seq (.reg (tq 9 (.bin .lss (.t 8) (.t 7)) .done))
 (.seq (.cond (.t 9) .skip
 (.exit 0))
 (.seq (.block 1 (.seq (.reg (tm 10 (.t 8) (tm 5 (.t 10) .done)))
 (.seq (.reg (tm 11 (.t 1) (tm 12 (.t 0) (tm 13 (.t 5) (tq 14 (.iaddr 1 (.t 12) (.t 13)) (tq 15 (.load 1 false (.t 14)) (tq 16 (.calv (.t 11) [(.t 15)]) .done)))))))
 (.cond (.t 16) (.seq (.reg (tm 17 (.t 5) (tm 4 (.t 17) .done)))
 .ret)
 .skip))))
 (.reg (tq 18 (.bin .add (.t 8) (.c (.int .i64 1))) (tm 8 (.t 18) .done)))))))))
 (.cut (.seq (.reg (tq 4 (.mov (.c (.int .i64 (-1)))) .done))
 .ret))))
theorem fc122:fcomp Try.prog Try.f122 = some (c122.erase,[.mov (.t 4)],19):=by kernel_rfl
def slices_IndexFunc_string_string_L1 (f_2:(Str → Option Bool)):List Str → Nat → Option (Fl Int Unit)
  | [],s8_17 =>
    some (.go ())
  | x_31 :: xs,s8_17 =>
    (f_2 x_31).bind fun r_32 =>
    if r_32 then
    some (.ret (s8_17:Int))
    else
    slices_IndexFunc_string_string_L1 f_2 xs (s8_17 + 1)

def slices_IndexFunc_string_string (s_1:(List Str)) (f_2:(Str → Option Bool)):Option Int :=
    (slices_IndexFunc_string_string_L1 f_2 s_1 0).bind fun q => (match q with
    | .ret r => some r
    | .go _ =>
    some (-1))
theorem w_slices_IndexFunc_string_string (s_1:(List Str)) (f_2:(Str → Option Bool)) (r:Int) (hf:slices_IndexFunc_string_string s_1 f_2 = some r) (kf_f_2:Nat) (cf_f_2:List AV) (okf_f_2:okFn Try.prog kf_f_2 = true) (hcf_f_2:∀ h p,closeWs h p cf_f_2 = some cf_f_2) (hrf_f_2:∀ f,rens f cf_f_2 = cf_f_2) (hpf_f_2:∀ a0 r,f_2 a0 = some r → CallOK Try.prog kf_f_2 .flat ([(.str a0)] ++ cf_f_2) (.bool r)):CallOK Try.prog 122 .flat [(.lst 1 (s_1.map AV.str)),(.fn kf_f_2 cf_f_2)] (.int .i64 r):=by
 refine CallOK.of_awp mixed Try.func122 fc122 nle ?_;rw [argT_eq];unfold slices_IndexFunc_string_string at hf;unfold c122;refine (show awp Try.prog false 0 _ (ofL [(0,(.lst 1 (s_1.map AV.str))),(1,(.fn kf_f_2 cf_f_2))]) [] _ from ?_);refine sr<|s_mov (.int .i64 0) rfl<|dk<|awp_seq<|sr<|s_mov (.lst 1 (s_1.map AV.str)) rfl<|s_dof (o_len (enc:=AV.str) rfl) fun hl3 => s_mov (.int .i64 0) rfl<|dk<|?_
 obtain ⟨p24,hb1,hf⟩:=ob hf
 refine awp_cutx (X:={q:Unit // p24 = .go q}) (fun q => ([],[])) ?_ ?_
 ·refine awp_loop (X:={q:Nat // slices_IndexFunc_string_string_L1 f_2 (s_1.drop q) q = some p24}) (fun q => ([(0,(.lst 1 (s_1.map AV.str))),(1,(.fn kf_f_2 cf_f_2)),(7,(.int .i64 (s_1.length:Int))),(8,(.int .i64 (q.1:Int)))],[])) (fun q => s_1.length - q.1) ⟨0,hb1⟩ ⟨[],[],_,_,rfl,rfl,⟨.refl _,⟨.of_eq (congrArg (AV.fn _) (hrf_f_2 _)),⟨.refl _,⟨.refl _,trivial⟩⟩⟩⟩,(.refl _)⟩ ?_
  rintro ⟨s8_17,hc1⟩
  have hc1:slices_IndexFunc_string_string_L1 f_2 (s_1.drop s8_17) s8_17 = some p24:=hc1
  refine (show awp Try.prog false 0 _ (ofL [(0,(.lst 1 (s_1.map AV.str))),(1,(.fn kf_f_2 cf_f_2)),(7,(.int .i64 (s_1.length:Int))),(8,(.int .i64 (s8_17:Int)))]) [] _ from ?_)
  rcases dropc s_1 s8_17 with ⟨hie27,hd30⟩ | ⟨hlt25,x_31,hx26,hd30⟩
  ·rw [hd30,slices_IndexFunc_string_string_L1.eq_1] at hc1
   have hq29:=dlf hie27
   refine sr<|s_q (.bool (decide ((s8_17:Int) < (s_1.length:Int)))) rfl rfl rfl<|dk<|awp_seq<|w_condf rfl hq29<|w_exit<|k_seqx<|k_loopx<|k_blkx<|?_;obtain rfl:=os hc1;exact k_cutn ⟨_,rfl⟩ ⟨[],[],_,_,rfl,rfl,trivial,(.refl _)⟩
  ·rw [hd30,slices_IndexFunc_string_string_L1.eq_2] at hc1
   have hq29:=dlt hlt25
   refine sr<|s_q (.bool (decide ((s8_17:Int) < (s_1.length:Int)))) rfl rfl rfl<|dk<|awp_seq<|w_condt rfl hq29<|w_skip<|k_seq<|awp_seq<|w_blk<|sr<|s_mov (.int .i64 (s8_17:Int)) rfl<|s_mov (.int .i64 (s8_17:Int)) rfl<|dk<|sr<|?_
   obtain ⟨r_32,er33,hc1⟩:=ob hc1
   refine s_mov (.fn kf_f_2 cf_f_2) rfl<|s_mov (.lst 1 (s_1.map AV.str)) rfl<|s_mov (.int .i64 (s8_17:Int)) rfl<|s_do (o_iaddrn (enc:=AV.str) rfl rfl hx26)<|s_q (.str x_31) rfl ⟨rfl,rfl⟩ rfl<|s_do (o_calvp (v:=(.bool r_32)) rfl okf_f_2 hcf_f_2 (hpf_f_2 _ _ er33) rfl (.refl _) rfl)<|dk<|?_
   rcases oi hc1 with ⟨c34,hc1⟩ | ⟨c34,hc1⟩
   ·refine w_condt rfl c34<|sr<|s_mov (.int .i64 (s8_17:Int)) rfl<|s_mov (.int .i64 (s8_17:Int)) rfl<|dk<|w_ret<|?_;obtain rfl:=os hc1;obtain rfl:=os hf;exact r_flat ⟨trivial,trivial⟩ rfl (.refl _)
   ·refine w_condf rfl (bf c34)<|w_skip<|k_blk<|k_seq<|w_reg<|s_q (.int .i64 (w64 ((s8_17:Int) + 1))) rfl rfl rfl<|s_mov (.int .i64 (w64 ((s8_17:Int) + 1))) rfl<|w_done<|?_;exact k_loopn ⟨(s8_17 + 1),hc1⟩ (mul hlt25) ⟨[],[],_,_,rfl,rfl,⟨.refl _,⟨.of_eq (congrArg (AV.fn _) (hrf_f_2 _)),⟨.refl _,⟨.of_eq (congrArg (AV.int _) (w64_incr hlt25 hl3)),trivial⟩⟩⟩⟩,(.refl _)⟩
 ·rintro ⟨_,rfl⟩
  refine sr<|s_mov (.int .i64 (-1)) rfl<|dk<|w_ret<|?_;obtain rfl:=os hf;exact r_flat ⟨trivial,trivial⟩ rfl (.refl _)

/- slices.ContainsFunc[[]string,string] -/
def c109:ACode :=
 (.seq (.reg (tm 4 (.c (.bool false)) .done))
 (.seq (.reg (tm 5 (.t 0) (tm 6 (.t 1) (tq 7 (.call 122 [(.t 5),(.t 6)]) (tq 8 (.bin .geq (.t 7) (.c (.int .i64 0))) (tm 4 (.t 8) .done))))))
 .ret))
theorem fc109:fcomp Try.prog Try.f109 = some (c109.erase,[.mov (.t 4)],9):=by kernel_rfl
def slices_ContainsFunc_string_string (s_1:(List Str)) (f_2:(Str → Option Bool)):Option Bool :=
    (slices_IndexFunc_string_string s_1 f_2).bind fun r_3 =>
    some (decide (r_3 ≥ 0))
theorem w_slices_ContainsFunc_string_string (s_1:(List Str)) (f_2:(Str → Option Bool)) (r:Bool) (hf:slices_ContainsFunc_string_string s_1 f_2 = some r) (kf_f_2:Nat) (cf_f_2:List AV) (okf_f_2:okFn Try.prog kf_f_2 = true) (hcf_f_2:∀ h p,closeWs h p cf_f_2 = some cf_f_2) (hrf_f_2:∀ f,rens f cf_f_2 = cf_f_2) (hpf_f_2:∀ a0 r,f_2 a0 = some r → CallOK Try.prog kf_f_2 .flat ([(.str a0)] ++ cf_f_2) (.bool r)):CallOK Try.prog 109 .flat [(.lst 1 (s_1.map AV.str)),(.fn kf_f_2 cf_f_2)] (.bool r):=by
  refine CallOK.of_awp mixed Try.func109 fc109 nle ?_
  rw [argT_eq]
  unfold slices_ContainsFunc_string_string at hf
  unfold c109
  refine (show awp Try.prog false 0 _ (ofL [(0,(.lst 1 (s_1.map AV.str))),(1,(.fn kf_f_2 cf_f_2))]) [] _ from ?_)
  refine awp_seq ?_
  refine w_reg ?_
  refine s_do (o_mov (.bool false) rfl) ?_
  refine w_done ?_
  refine k_seq ?_
  refine awp_seq ?_
  refine w_reg ?_
  obtain ⟨r_3,er4,hf⟩:=ob hf
  refine s_do (o_mov (.lst 1 (s_1.map AV.str)) rfl) ?_
  refine s_do (o_mov (.fn kf_f_2 cf_f_2) rfl) ?_
  refine s_do (o_call (w_slices_IndexFunc_string_string _ _ _ er4 kf_f_2 cf_f_2 okf_f_2 hcf_f_2 hrf_f_2 hpf_f_2) (cls_cons rfl (cls_cons (cls_fn hcf_f_2) rfl)) (.refl _) rfl) ?_
  refine s_do (o_q (.bool (decide (r_3 ≥ 0))) rfl rfl rfl) ?_
  refine s_do (o_mov (.bool (decide (r_3 ≥ 0))) rfl) ?_
  refine w_done ?_
  refine k_seq ?_
  refine w_ret ?_
  obtain rfl:=os hf
  exact r_flat ⟨trivial,trivial⟩ rfl (.refl _)

/- impl.areShort$1 -/
def c118:ACode :=
 (.seq (.reg (tm 2 (.c (.bool false)) .done))
 (.seq (.reg (tm 3 (.t 0) (tq 4 (.lenS (.t 3)) (tq 5 (.bin .gtr (.t 4) (.c (.int .i64 40))) (tm 2 (.t 5) .done)))))
 .ret))
theorem fc118:fcomp Try.prog Try.f118 = some (c118.erase,[.mov (.t 2)],6):=by kernel_rfl
def impl_areShort_1 (t_1:Str):Option Bool :=
    some (decide ((t_1.length:Int) > 40))
theorem w_impl_areShort_1 (t_1:Str) (r:Bool) (hf:impl_areShort_1 t_1 = some r):CallOK Try.prog 118 .flat [(.str t_1)] (.bool r):=by
  refine CallOK.of_awp mixed Try.func118 fc118 nle ?_
  rw [argT_eq]
  unfold impl_areShort_1 at hf
  unfold c118
  refine (show awp Try.prog false 0 _ (ofL [(0,(.str t_1))]) [] _ from ?_)
  refine awp_seq ?_
  refine w_reg ?_
  refine s_do (o_mov (.bool false) rfl) ?_
  refine w_done ?_
  refine k_seq ?_
  refine awp_seq ?_
  refine w_reg ?_
  refine s_do (o_mov (.str t_1) rfl) ?_
  refine s_dof (o_lenS rfl) fun hl2 => ?_
  refine s_do (o_q (.bool (decide ((t_1.length:Int) > 40))) rfl rfl rfl) ?_
  refine s_do (o_mov (.bool (decide ((t_1.length:Int) > 40))) rfl) ?_
  refine w_done ?_
  refine k_seq ?_
  refine w_ret ?_
  obtain rfl:=os hf
  exact r_flat ⟨trivial,trivial⟩ rfl (.refl _)

/- impl.areShort -/
def c100:ACode :=
 (.seq (.reg (tm 2 (.c (.bool false)) .done))
 (.seq (.reg (tm 3 (.t 0) (tq 4 (.call 109 [(.t 3),(.c (.fn 118 []))]) (tq 5 (.not (.t 4)) (tm 2 (.t 5) .done)))))
 .ret))
theorem fc100:fcomp Try.prog Try.f100 = some (c100.erase,[.mov (.t 2)],6):=by kernel_rfl
def impl_areShort (list_1:(List Str)):Option Bool :=
    (slices_ContainsFunc_string_string list_1 impl_areShort_1).bind fun r_2 =>
    some (!r_2)
theorem w_impl_areShort (list_1:(List Str)) (r:Bool) (hf:impl_areShort list_1 = some r):CallOK Try.prog 100 .flat [(.lst 1 (list_1.map AV.str))] (.bool r):=by
  refine CallOK.of_awp mixed Try.func100 fc100 nle ?_
  rw [argT_eq]
  unfold impl_areShort at hf
  unfold c100
  refine (show awp Try.prog false 0 _ (ofL [(0,(.lst 1 (list_1.map AV.str)))]) [] _ from ?_)
  refine awp_seq ?_
  refine w_reg ?_
  refine s_do (o_mov (.bool false) rfl) ?_
  refine w_done ?_
  refine k_seq ?_
  refine awp_seq ?_
  refine w_reg ?_
  obtain ⟨r_2,er3,hf⟩:=ob hf
  refine s_do (o_mov (.lst 1 (list_1.map AV.str)) rfl) ?_
  refine s_do (o_call (w_slices_ContainsFunc_string_string _ _ _ er3 118 [] (by kernel_rfl) (fun _ _ => rfl) (fun _ => rfl) (fun a0 r h => w_impl_areShort_1 a0 r h)) rfl (.refl _) rfl) ?_
  refine s_do (o_q (.bool (!r_2)) rfl trivial rfl) ?_
  refine s_do (o_mov (.bool (!r_2)) rfl) ?_
  refine w_done ?_
  refine k_seq ?_
  refine w_ret ?_
  obtain rfl:=os hf
  exact r_flat ⟨trivial,trivial⟩ rfl (.refl _)

/- impl.isPlain -/
def c68:ACode :=
 (.seq (.reg (tm 2 (.c (.bool false)) .done))
 (.seq (.seq (.reg (tm 4 (.t 0) (tq 5 (.lenS (.t 4)) (tm 6 (.c (.int .i64 0)) .done))))
 (.block 0 (.loop (.seq (.reg (tq 7 (.bin .lss (.t 6) (.t 5)) .done))
 (.seq (.cond (.t 7) .skip
 (.exit 0))
 (.seq (.block 1 (.seq (.reg (tm 8 (.t 6) (tm 3 (.t 8) .done)))
 (.seq (.reg (tm 9 (.t 0) (tm 10 (.t 3) (tq 11 (.idxs (.t 9) (.t 10)) (tq 12 (.bin .lss (.t 11) (.c (.int .u8 32))) (tm 13 (.t 12) (tg 14 13 false (.mov (.t 0)) (tg 15 13 false (.mov (.t 3)) (tg 16 13 false (.idxs (.t 14) (.t 15)) (tg 17 13 false (.bin .gtr (.t 16) (.c (.int .u8 126))) (tq 18 (.pick (.t 13) (.c (.bool true)) (.t 17)) .done)))))))))))
 (.cut (.cond (.t 18) (.seq (.reg (tm 2 (.c (.bool false)) .done))
 .ret)
 .skip)))))
 (.reg (tq 19 (.bin .add (.t 6) (.c (.int .i64 1))) (tm 6 (.t 19) .done)))))))))
 (.cut (.seq (.reg (tm 20 (.t 0) (tq 21 (.lenS (.t 20)) (tq 22 (.bin .leq (.t 21) (.c (.int .i64 200))) (tm 2 (.t 22) .done)))))
 .ret))))
theorem fc68:fcomp Try.prog Try.f68 = some (c68.erase,[.mov (.t 2)],23):=by kernel_rfl
def impl_isPlain_L1 :List UInt8 → Option (Fl Bool Unit)
  | [] =>
    some (.go ())
  | x_54 :: xs =>
    ((if (decide ((x_54.toNat:Int) < 32)) then
    some true
    else
    some (decide ((x_54.toNat:Int) > 126)):Option Bool)).bind fun s18_56 =>
    if s18_56 then
    some (.ret false)
    else
    impl_isPlain_L1 xs 

def impl_isPlain (t_1:Str):Option Bool :=
    (impl_isPlain_L1 t_1 ).bind fun q => (match q with
    | .ret r => some r
    | .go _ =>
    some (decide ((t_1.length:Int) ≤ 200)))
theorem w_impl_isPlain (t_1:Str) (r:Bool) (hf:impl_isPlain t_1 = some r):CallOK Try.prog 68 .flat [(.str t_1)] (.bool r):=by
 refine CallOK.of_awp mixed Try.func68 fc68 nle ?_;rw [argT_eq];unfold impl_isPlain at hf;unfold c68;refine (show awp Try.prog false 0 _ (ofL [(0,(.str t_1))]) [] _ from ?_);refine sr<|s_mov (.bool false) rfl<|dk<|awp_seq<|sr<|s_mov (.str t_1) rfl<|s_dof (o_lenS rfl) fun hl2 => s_mov (.int .i64 0) rfl<|dk<|?_
 obtain ⟨p47,hb1,hf⟩:=ob hf
 refine awp_cutx (X:={q:Unit // p47 = .go q}) (fun q => ([(0,(.str t_1))],[])) ?_ ?_
 ·refine awp_loop (X:={q:Nat // impl_isPlain_L1 (t_1.drop q)  = some p47}) (fun q => ([(0,(.str t_1)),(5,(.int .i64 (t_1.length:Int))),(6,(.int .i64 (q.1:Int)))],[])) (fun q => t_1.length - q.1) ⟨0,hb1⟩ ⟨[],[],_,_,rfl,rfl,⟨.refl _,⟨.refl _,⟨.refl _,trivial⟩⟩⟩,(.refl _)⟩ ?_
  rintro ⟨s6_32,hc1⟩
  have hc1:impl_isPlain_L1 (t_1.drop s6_32)  = some p47:=hc1
  refine (show awp Try.prog false 0 _ (ofL [(0,(.str t_1)),(5,(.int .i64 (t_1.length:Int))),(6,(.int .i64 (s6_32:Int)))]) [] _ from ?_)
  rcases dropc t_1 s6_32 with ⟨hie50,hd53⟩ | ⟨hlt48,x_54,hx49,hd53⟩
  ·rw [hd53,impl_isPlain_L1.eq_1] at hc1
   have hq52:=dlf hie50
   refine sr<|s_q (.bool (decide ((s6_32:Int) < (t_1.length:Int)))) rfl rfl rfl<|dk<|awp_seq<|w_condf rfl hq52<|w_exit<|k_seqx<|k_loopx<|k_blkx<|?_;obtain rfl:=os hc1;exact k_cutn ⟨_,rfl⟩ ⟨[],[],_,_,rfl,rfl,⟨.refl _,trivial⟩,(.refl _)⟩
  ·rw [hd53,impl_isPlain_L1.eq_2] at hc1
   have hq52:=dlt hlt48
   refine sr<|s_q (.bool (decide ((s6_32:Int) < (t_1.length:Int)))) rfl rfl rfl<|dk<|awp_seq<|w_condt rfl hq52<|w_skip<|k_seq<|awp_seq<|w_blk<|sr<|s_mov (.int .i64 (s6_32:Int)) rfl<|s_mov (.int .i64 (s6_32:Int)) rfl<|dk<|awp_seq<|?_
   obtain ⟨s18_56,hb2,hc1⟩:=ob hc1
   refine awp_cut ([(0,(.str t_1)),(5,(.int .i64 (t_1.length:Int))),(6,(.int .i64 (s6_32:Int))),(18,(.bool s18_56))],[]) ?_ ?_
   ·refine w_reg ?_
    rcases oi hb2 with ⟨c58,hb2⟩ | ⟨c58,hb2⟩
    ·refine s_mov (.str t_1) rfl<|s_mov (.int .i64 (s6_32:Int)) rfl<|s_do (o_idxsn rfl rfl hx49)<|s_q (.bool (decide ((x_54.toNat:Int) < 32))) rfl rfl rfl<|s_mov (.bool (decide ((x_54.toNat:Int) < 32))) rfl<|s_lit (s:=13) (b:=true) rfl c58<|s_off rfl rfl<|s_off rfl rfl<|s_off rfl rfl<|s_off rfl rfl<|s_q (.bool true) rfl trivial rfl<|w_done<|?_;obtain rfl:=os hb2;exact ⟨[],[],_,_,rfl,rfl,⟨.refl _,⟨.refl _,⟨.refl _,⟨.refl _,trivial⟩⟩⟩⟩,(.refl _)⟩
    ·refine s_mov (.str t_1) rfl<|s_mov (.int .i64 (s6_32:Int)) rfl<|s_do (o_idxsn rfl rfl hx49)<|s_q (.bool (decide ((x_54.toNat:Int) < 32))) rfl rfl rfl<|s_mov (.bool (decide ((x_54.toNat:Int) < 32))) rfl<|s_lit (s:=13) (b:=false) rfl (bf c58)<|s_on rfl<|s_mov (.str t_1) rfl<|s_on rfl<|s_mov (.int .i64 (s6_32:Int)) rfl<|s_on rfl<|s_do (o_idxsn rfl rfl hx49)<|s_on rfl<|s_q (.bool (decide ((x_54.toNat:Int) > 126))) rfl rfl rfl<|s_q (.bool (decide ((x_54.toNat:Int) > 126))) rfl trivial rfl<|w_done<|?_;obtain rfl:=os hb2;exact ⟨[],[],_,_,rfl,rfl,⟨.refl _,⟨.refl _,⟨.refl _,⟨.refl _,trivial⟩⟩⟩⟩,(.refl _)⟩
   ·rcases oi hc1 with ⟨c59,hc1⟩ | ⟨c59,hc1⟩
    ·refine w_condt rfl c59<|sr<|s_mov (.bool false) rfl<|dk<|w_ret<|?_;obtain rfl:=os hc1;obtain rfl:=os hf;exact r_flat ⟨trivial,trivial⟩ rfl (.refl _)
    ·refine w_condf rfl (bf c59)<|w_skip<|k_blk<|k_seq<|w_reg<|s_q (.int .i64 (w64 ((s6_32:Int) + 1))) rfl rfl rfl<|s_mov (.int .i64 (w64 ((s6_32:Int) + 1))) rfl<|w_done<|?_;exact k_loopn ⟨(s6_32 + 1),hc1⟩ (mul hlt48) ⟨[],[],_,_,rfl,rfl,⟨.refl _,⟨.refl _,⟨.of_eq (congrArg (AV.int _) (w64_incr hlt48 hl2)),trivial⟩⟩⟩,(.refl _)⟩
 ·rintro ⟨_,rfl⟩
  refine sr<|s_mov (.str t_1) rfl<|s_dof (o_lenS rfl) fun hl60 => s_q (.bool (decide ((t_1.length:Int) ≤ 200))) rfl rfl rfl<|s_mov (.bool (decide ((t_1.length:Int) ≤ 200))) rfl<|dk<|w_ret<|?_;obtain rfl:=os hf;exact r_flat ⟨trivial,trivial⟩ rfl (.refl _)

/- impl.AtomOK -/
def c32:ACode :=
 (.seq (.reg (tq 1 (.box 3 (.t 0)) (tm 2 (.c (.bool false)) .done)))
 (.seq (.seq (.reg (tq 3 (.faddr 0 (.t 1)) (tq 4 (.load 1 false (.t 3)) .done)))
 (.block 0 (.seq (.reg (tq 6 (.bin .eql (.t 4) (.c (.int .i64 1))) (tm 5 (.t 6) .done)))
 (.cond (.t 5) (.seq (.reg (tq 7 (.faddr 1 (.t 1)) (tq 8 (.load 1 false (.t 7)) (tq 9 (.call 67 [(.t 8)]) (tm 10 (.t 9) (tg 11 10 true (.faddr 2 (.t 1)) (tg 12 10 true (.load 1 false (.t 11)) (tg 13 10 true (.bin .eql (.t 12) (.c (.str []))) (tq 14 (.pick (.t 10) (.t 13) (.c (.bool false))) (tm 2 (.t 14) .done))))))))))
 .ret)
 (.seq (.reg (tq 16 (.bin .eql (.t 4) (.c (.int .i64 2))) (tm 15 (.t 16) .done)))
 (.cond (.t 15) (.seq (.reg (tq 17 (.faddr 1 (.t 1)) (tq 18 (.load 1 false (.t 17)) (tq 19 (.bin .eql (.t 18) (.c (.int .i64 0))) (tm 20 (.t 19) (tg 21 20 true (.faddr 2 (.t 1)) (tg 22 20 true (.load 1 false (.t 21)) (tg 23 20 true (.call 68 [(.t 22)]) (tq 24 (.pick (.t 20) (.t 23) (.c (.bool false))) (tm 2 (.t 24) .done))))))))))
 .ret)
 (.seq (.reg (tq 26 (.bin .eql (.t 4) (.c (.int .i64 3))) (tm 25 (.t 26) .done)))
 (.cond (.t 25) (.seq (.reg (tq 27 (.faddr 1 (.t 1)) (tq 28 (.load 1 false (.t 27)) (tq 29 (.call 69 [(.t 28),(.c (.int .i64 0)),(.c (.int .i64 1))]) (tm 30 (.t 29) (tg 31 30 true (.faddr 2 (.t 1)) (tg 32 30 true (.load 1 false (.t 31)) (tg 33 30 true (.bin .eql (.t 32) (.c (.str []))) (tq 34 (.pick (.t 30) (.t 33) (.c (.bool false))) (tm 2 (.t 34) .done))))))))))
 .ret)
 (.seq (.reg (tq 36 (.bin .eql (.t 4) (.c (.int .i64 4))) (tm 35 (.t 36) .done)))
 (.cond (.t 35) (.seq (.reg (tq 37 (.faddr 1 (.t 1)) (tq 38 (.load 1 false (.t 37)) (tq 39 (.call 36 [(.t 38)]) (tm 40 (.t 39) (tg 41 40 true (.faddr 2 (.t 1)) (tg 42 40 true (.load 1 false (.t 41)) (tg 43 40 true (.bin .eql (.t 42) (.c (.str []))) (tq 44 (.pick (.t 40) (.t 43) (.c (.bool false))) (tm 2 (.t 44) .done))))))))))
 .ret)
 .skip))))))))))
 (.seq (.reg (tm 2 (.c (.bool false)) .done))
 .ret)))
theorem fc32:fcomp Try.prog Try.f32 = some (c32.erase,[.mov (.t 2)],45):=by kernel_rfl
def impl_AtomOK (a_1:GAtom):Option Bool :=
    if (a_1.Kind == 1) then
    (impl_isNumber a_1.N).bind fun r_3 =>
    if r_3 then
    some (a_1.T == [])
    else
    some false
    else
    if (a_1.Kind == 2) then
    if (a_1.N == 0) then
    (impl_isPlain a_1.T).bind fun r_8 =>
    some r_8
    else
    some false
    else
    if (a_1.Kind == 3) then
    (impl_within a_1.N 0 1).bind fun r_11 =>
    if r_11 then
    some (a_1.T == [])
    else
    some false
    else
    if (a_1.Kind == 4) then
    (impl_isId a_1.N).bind fun r_15 =>
    if r_15 then
    some (a_1.T == [])
    else
    some false
    else
    some false
theorem w_impl_AtomOK (a_1:GAtom) (r:Bool) (hf:impl_AtomOK a_1 = some r):CallOK Try.prog 32 .flat [(encGAtom a_1)] (.bool r):=by
 refine CallOK.of_awp mixed Try.func32 fc32 nle ?_;rw [argT_eq];unfold impl_AtomOK at hf;unfold c32;refine (show awp Try.prog false 0 _ (ofL [(0,(encGAtom a_1))]) [] _ from ?_);refine sr<|s_do (o_box (j:=0) (c:=(.agg [(.int .i64 a_1.Kind),(.int .i64 a_1.N),(.str a_1.T)])) rfl trivial rfl rfl)<|s_mov (.bool false) rfl<|dk<|awp_seq<|sr<|s_q (.ptr 0 0 0) rfl trivial rfl<|s_q (.int .i64 a_1.Kind) rfl nle rfl<|dk<|w_blk<|sr<|s_q (.bool (a_1.Kind == 1)) rfl rfl rfl<|s_mov (.bool (a_1.Kind == 1)) rfl<|dk<|?_
 rcases oi hf with ⟨c2,hf⟩ | ⟨c2,hf⟩
 ·refine w_condt rfl c2<|sr<|?_
  obtain ⟨r_3,er4,hf⟩:=ob hf
  rcases oi hf with ⟨c5,hf⟩ | ⟨c5,hf⟩
  ·refine s_q (.ptr 0 0 1) rfl trivial rfl<|s_q (.int .i64 a_1.N) rfl nle rfl<|s_do (o_call (w_impl_isNumber _ _ er4) rfl (.refl _) rfl)<|s_mov (.bool r_3) rfl<|s_lit (s:=10) (b:=true) rfl c5<|s_on rfl<|s_q (.ptr 0 0 2) rfl trivial rfl<|s_on rfl<|s_q (.str a_1.T) rfl nle rfl<|s_on rfl<|s_q (.bool (a_1.T == [])) rfl trivial rfl<|s_q (.bool (a_1.T == [])) rfl trivial rfl<|s_mov (.bool (a_1.T == [])) rfl<|dk<|w_ret<|?_;obtain rfl:=os hf;exact r_flat ⟨trivial,trivial⟩ rfl (.refl _)
  ·refine s_q (.ptr 0 0 1) rfl trivial rfl<|s_q (.int .i64 a_1.N) rfl nle rfl<|s_do (o_call (w_impl_isNumber _ _ er4) rfl (.refl _) rfl)<|s_mov (.bool r_3) rfl<|s_lit (s:=10) (b:=false) rfl (bf c5)<|s_off rfl rfl<|s_off rfl rfl<|s_off rfl rfl<|s_q (.bool false) rfl trivial rfl<|s_mov (.bool false) rfl<|dk<|w_ret<|?_;obtain rfl:=os hf;exact r_flat ⟨trivial,trivial⟩ rfl (.refl _)
 ·refine w_condf rfl (bf c2)<|sr<|s_q (.bool (a_1.Kind == 2)) rfl rfl rfl<|s_mov (.bool (a_1.Kind == 2)) rfl<|dk<|?_
  rcases oi hf with ⟨c6,hf⟩ | ⟨c6,hf⟩
  ·refine w_condt rfl c6<|sr<|?_
   rcases oi hf with ⟨c7,hf⟩ | ⟨c7,hf⟩
   ·obtain ⟨r_8,er9,hf⟩:=ob hf
    refine s_q (.ptr 0 0 1) rfl trivial rfl<|s_q (.int .i64 a_1.N) rfl nle rfl<|s_q (.bool (a_1.N == 0)) rfl rfl rfl<|s_mov (.bool (a_1.N == 0)) rfl<|s_lit (s:=20) (b:=true) rfl c7<|s_on rfl<|s_q (.ptr 0 0 2) rfl trivial rfl<|s_on rfl<|s_q (.str a_1.T) rfl nle rfl<|s_on rfl<|s_do (o_call (w_impl_isPlain _ _ er9) rfl (.refl _) rfl)<|s_q (.bool r_8) rfl trivial rfl<|s_mov (.bool r_8) rfl<|dk<|w_ret<|?_;obtain rfl:=os hf;exact r_flat ⟨trivial,trivial⟩ rfl (.refl _)
   ·refine s_q (.ptr 0 0 1) rfl trivial rfl<|s_q (.int .i64 a_1.N) rfl nle rfl<|s_q (.bool (a_1.N == 0)) rfl rfl rfl<|s_mov (.bool (a_1.N == 0)) rfl<|s_lit (s:=20) (b:=false) rfl (bf c7)<|s_off rfl rfl<|s_off rfl rfl<|s_off rfl rfl<|s_q (.bool false) rfl trivial rfl<|s_mov (.bool false) rfl<|dk<|w_ret<|?_;obtain rfl:=os hf;exact r_flat ⟨trivial,trivial⟩ rfl (.refl _)
  ·refine w_condf rfl (bf c6)<|sr<|s_q (.bool (a_1.Kind == 3)) rfl rfl rfl<|s_mov (.bool (a_1.Kind == 3)) rfl<|dk<|?_
   rcases oi hf with ⟨c10,hf⟩ | ⟨c10,hf⟩
   ·refine w_condt rfl c10<|sr<|?_
    obtain ⟨r_11,er12,hf⟩:=ob hf
    rcases oi hf with ⟨c13,hf⟩ | ⟨c13,hf⟩
    ·refine s_q (.ptr 0 0 1) rfl trivial rfl<|s_q (.int .i64 a_1.N) rfl nle rfl<|s_do (o_call (w_impl_within _ _ _ _ er12) rfl (.refl _) rfl)<|s_mov (.bool r_11) rfl<|s_lit (s:=30) (b:=true) rfl c13<|s_on rfl<|s_q (.ptr 0 0 2) rfl trivial rfl<|s_on rfl<|s_q (.str a_1.T) rfl nle rfl<|s_on rfl<|s_q (.bool (a_1.T == [])) rfl trivial rfl<|s_q (.bool (a_1.T == [])) rfl trivial rfl<|s_mov (.bool (a_1.T == [])) rfl<|dk<|w_ret<|?_;obtain rfl:=os hf;exact r_flat ⟨trivial,trivial⟩ rfl (.refl _)
    ·refine s_q (.ptr 0 0 1) rfl trivial rfl<|s_q (.int .i64 a_1.N) rfl nle rfl<|s_do (o_call (w_impl_within _ _ _ _ er12) rfl (.refl _) rfl)<|s_mov (.bool r_11) rfl<|s_lit (s:=30) (b:=false) rfl (bf c13)<|s_off rfl rfl<|s_off rfl rfl<|s_off rfl rfl<|s_q (.bool false) rfl trivial rfl<|s_mov (.bool false) rfl<|dk<|w_ret<|?_;obtain rfl:=os hf;exact r_flat ⟨trivial,trivial⟩ rfl (.refl _)
   ·refine w_condf rfl (bf c10)<|sr<|s_q (.bool (a_1.Kind == 4)) rfl rfl rfl<|s_mov (.bool (a_1.Kind == 4)) rfl<|dk<|?_
    rcases oi hf with ⟨c14,hf⟩ | ⟨c14,hf⟩
    ·refine w_condt rfl c14<|sr<|?_
     obtain ⟨r_15,er16,hf⟩:=ob hf
     rcases oi hf with ⟨c17,hf⟩ | ⟨c17,hf⟩
     ·refine s_q (.ptr 0 0 1) rfl trivial rfl<|s_q (.int .i64 a_1.N) rfl nle rfl<|s_do (o_call (w_impl_isId _ _ er16) rfl (.refl _) rfl)<|s_mov (.bool r_15) rfl<|s_lit (s:=40) (b:=true) rfl c17<|s_on rfl<|s_q (.ptr 0 0 2) rfl trivial rfl<|s_on rfl<|s_q (.str a_1.T) rfl nle rfl<|s_on rfl<|s_q (.bool (a_1.T == [])) rfl trivial rfl<|s_q (.bool (a_1.T == [])) rfl trivial rfl<|s_mov (.bool (a_1.T == [])) rfl<|dk<|w_ret<|?_;obtain rfl:=os hf;exact r_flat ⟨trivial,trivial⟩ rfl (.refl _)
     ·refine s_q (.ptr 0 0 1) rfl trivial rfl<|s_q (.int .i64 a_1.N) rfl nle rfl<|s_do (o_call (w_impl_isId _ _ er16) rfl (.refl _) rfl)<|s_mov (.bool r_15) rfl<|s_lit (s:=40) (b:=false) rfl (bf c17)<|s_off rfl rfl<|s_off rfl rfl<|s_off rfl rfl<|s_q (.bool false) rfl trivial rfl<|s_mov (.bool false) rfl<|dk<|w_ret<|?_;obtain rfl:=os hf;exact r_flat ⟨trivial,trivial⟩ rfl (.refl _)
    ·refine w_condf rfl (bf c14)<|w_skip<|k_blk<|k_seq<|sr<|s_mov (.bool false) rfl<|dk<|w_ret<|?_;obtain rfl:=os hf;exact r_flat ⟨trivial,trivial⟩ rfl (.refl _)

/- cmp.isNaN[int] -/
def c104:ACode :=
 (.seq (.reg (tm 2 (.c (.bool false)) .done))
 (.seq (.reg (tm 3 (.t 0) (tm 4 (.t 0) (tq 5 (.bin .neq (.t 3) (.t 4)) (tm 2 (.t 5) .done)))))
 .ret))
theorem fc104:fcomp Try.prog Try.f104 = some (c104.erase,[.mov (.t 2)],6):=by kernel_rfl
def cmp_isNaN_int (x_1:Int):Option Bool :=
    some (x_1 != x_1)
theorem w_cmp_isNaN_int (x_1:Int) (r:Bool) (hf:cmp_isNaN_int x_1 = some r):CallOK Try.prog 104 .flat [(.int .i64 x_1)] (.bool r):=by
  refine CallOK.of_awp mixed Try.func104 fc104 nle ?_
  rw [argT_eq]
  unfold cmp_isNaN_int at hf
  unfold c104
  refine (show awp Try.prog false 0 _ (ofL [(0,(.int .i64 x_1))]) [] _ from ?_)
  refine awp_seq ?_
  refine w_reg ?_
  refine s_do (o_mov (.bool false) rfl) ?_
  refine w_done ?_
  refine k_seq ?_
  refine awp_seq ?_
  refine w_reg ?_
  refine s_do (o_mov (.int .i64 x_1) rfl) ?_
  refine s_do (o_mov (.int .i64 x_1) rfl) ?_
  refine s_do (o_q (.bool (x_1 != x_1)) rfl rfl rfl) ?_
  refine s_do (o_mov (.bool (x_1 != x_1)) rfl) ?_
  refine w_done ?_
  refine k_seq ?_
  refine w_ret ?_
  obtain rfl:=os hf
  exact r_flat ⟨trivial,trivial⟩ rfl (.refl _)

/- cmp.Compare[int] -/
def c71:ACode :=
 (.seq (.reg (tm 4 (.c (.int .i64 0)) .done))
 (.seq (.reg (tm 7 (.t 0) (tq 8 (.call 104 [(.t 7)]) (tm 5 (.t 8) .done))))
 (.seq (.reg (tm 9 (.t 1) (tq 10 (.call 104 [(.t 9)]) (tm 6 (.t 10) .done))))
 (.seq (.seq (.reg (tm 11 (.t 5) .done))
 (.cond (.t 11) (.seq (.seq (.reg (tm 12 (.t 6) .done))
 (.cond (.t 12) (.seq (.reg (tm 4 (.c (.int .i64 0)) .done))
 .ret)
 .skip))
 (.seq (.reg (tq 4 (.mov (.c (.int .i64 (-1)))) .done))
 .ret))
 .skip))
 (.seq (.seq (.reg (tm 13 (.t 6) .done))
 (.cond (.t 13) (.seq (.reg (tm 4 (.c (.int .i64 1)) .done))
 .ret)
 .skip))
 (.seq (.seq (.reg (tm 14 (.t 0) (tm 15 (.t 1) (tq 16 (.bin .lss (.t 14) (.t 15)) .done))))
 (.cond (.t 16) (.seq (.reg (tq 4 (.mov (.c (.int .i64 (-1)))) .done))
 .ret)
 .skip))
 (.seq (.seq (.reg (tm 17 (.t 0) (tm 18 (.t 1) (tq 19 (.bin .gtr (.t 17) (.t 18)) .done))))
 (.cond (.t 19) (.seq (.reg (tm 4 (.c (.int .i64 1)) .done))
 .ret)
 .skip))
 (.seq (.reg (tm 4 (.c (.int .i64 0)) .done))
 .ret))))))))
theorem fc71:fcomp Try.prog Try.f71 = some (c71.erase,[.mov (.t 4)],20):=by kernel_rfl
def cmp_Compare_int (x_1:Int) (y_2:Int):Option Int :=
    (cmp_isNaN_int x_1).bind fun r_3 =>
    (cmp_isNaN_int y_2).bind fun r_5 =>
    if r_3 then
    if r_5 then
    some 0
    else
    some (-1)
    else
    if r_5 then
    some 1
    else
    if (decide (x_1 < y_2)) then
    some (-1)
    else
    if (decide (x_1 > y_2)) then
    some 1
    else
    some 0
theorem w_cmp_Compare_int (x_1:Int) (y_2:Int) (r:Int) (hf:cmp_Compare_int x_1 y_2 = some r):CallOK Try.prog 71 .flat [(.int .i64 x_1),(.int .i64 y_2)] (.int .i64 r):=by
 refine CallOK.of_awp mixed Try.func71 fc71 nle ?_;rw [argT_eq];unfold cmp_Compare_int at hf;unfold c71;refine (show awp Try.prog false 0 _ (ofL [(0,(.int .i64 x_1)),(1,(.int .i64 y_2))]) [] _ from ?_);refine sr<|s_mov (.int .i64 0) rfl<|dk<|sr<|?_
 obtain ⟨r_3,er4,hf⟩:=ob hf
 refine s_mov (.int .i64 x_1) rfl<|s_do (o_call (w_cmp_isNaN_int _ _ er4) rfl (.refl _) rfl)<|s_mov (.bool r_3) rfl<|dk<|sr<|?_
 obtain ⟨r_5,er6,hf⟩:=ob hf
 refine s_mov (.int .i64 y_2) rfl<|s_do (o_call (w_cmp_isNaN_int _ _ er6) rfl (.refl _) rfl)<|s_mov (.bool r_5) rfl<|dk<|awp_seq<|sr<|s_mov (.bool r_3) rfl<|dk<|?_
 rcases oi hf with ⟨c7,hf⟩ | ⟨c7,hf⟩
 ·refine w_condt rfl c7<|awp_seq<|sr<|s_mov (.bool r_5) rfl<|dk<|?_
  rcases oi hf with ⟨c8,hf⟩ | ⟨c8,hf⟩
  ·refine w_condt rfl c8<|sr<|s_mov (.int .i64 0) rfl<|dk<|w_ret<|?_;obtain rfl:=os hf;exact r_flat ⟨trivial,trivial⟩ rfl (.refl _)
  ·refine w_condf rfl (bf c8)<|w_skip<|k_seq<|sr<|s_mov (.int .i64 (-1)) rfl<|dk<|w_ret<|?_;obtain rfl:=os hf;exact r_flat ⟨trivial,trivial⟩ rfl (.refl _)
 ·refine w_condf rfl (bf c7)<|w_skip<|k_seq<|awp_seq<|sr<|s_mov (.bool r_5) rfl<|dk<|?_
  rcases oi hf with ⟨c9,hf⟩ | ⟨c9,hf⟩
  ·refine w_condt rfl c9<|sr<|s_mov (.int .i64 1) rfl<|dk<|w_ret<|?_;obtain rfl:=os hf;exact r_flat ⟨trivial,trivial⟩ rfl (.refl _)
  ·refine w_condf rfl (bf c9)<|w_skip<|k_seq<|awp_seq<|sr<|s_mov (.int .i64 x_1) rfl<|s_mov (.int .i64 y_2) rfl<|s_q (.bool (decide (x_1 < y_2))) rfl rfl rfl<|dk<|?_
   rcases oi hf with ⟨c10,hf⟩ | ⟨c10,hf⟩
   ·refine w_condt rfl c10<|sr<|s_mov (.int .i64 (-1)) rfl<|dk<|w_ret<|?_;obtain rfl:=os hf;exact r_flat ⟨trivial,trivial⟩ rfl (.refl _)
   ·refine w_condf rfl (bf c10)<|w_skip<|k_seq<|awp_seq<|sr<|s_mov (.int .i64 x_1) rfl<|s_mov (.int .i64 y_2) rfl<|s_q (.bool (decide (x_1 > y_2))) rfl rfl rfl<|dk<|?_
    rcases oi hf with ⟨c11,hf⟩ | ⟨c11,hf⟩
    ·refine w_condt rfl c11<|sr<|s_mov (.int .i64 1) rfl<|dk<|w_ret<|?_;obtain rfl:=os hf;exact r_flat ⟨trivial,trivial⟩ rfl (.refl _)
    ·refine w_condf rfl (bf c11)<|w_skip<|k_seq<|sr<|s_mov (.int .i64 0) rfl<|dk<|w_ret<|?_;obtain rfl:=os hf;exact r_flat ⟨trivial,trivial⟩ rfl (.refl _)

/- internal/bytealg.CompareString -/
def internal_bytealg_CompareString (a b:Str):Option Int:=some (Lib.compareBytes a b)
set_option maxRecDepth 100000 in
open Go.RowKit in
theorem cmps_run (a b:ByteArray) (w:World):Calls Try.prog 105 #[.string a,.string b] w fun e w' => e = .returned (.int .i64 (Lib.compareBytes a.data.toList b.data.toList)) ∧ w' = w:=by
  go_enter Try.func105,(show Try.f105.ntmps = _ from rfl)
  go_wp2
  rw [run_callFunc_extern Try.func121 (by kernel_rfl) (by kernel_rfl) (by kernel_rfl) (e:=Extern.BytealgCompare.compare) (by kernel_rfl),Lib.run_compareString]
  simp only [Result.andThen]
  rw [Oper.upon_value]
  go_wp2
  go_ret
  exact ⟨rfl,rfl⟩
open Go.RowKit in
theorem w_internal_bytealg_CompareString (a b:Str) (r:Int) (hf:internal_bytealg_CompareString a b = some r):CallOK Try.prog 105 .flat [(.str a),(.str b)] (.int .i64 r):=by
  intro w vals fps hr
  simp only [RepVs,Rep] at hr
  obtain ⟨v1,vs1,f1,f2,rfl,⟨rfl,h1,rfl⟩,⟨v2,vs2,f3,f4,rfl,⟨rfl,h2,rfl⟩,⟨rfl,rfl⟩,rfl⟩,rfl⟩:=hr
  unfold internal_bytealg_CompareString at hf
  obtain rfl:=os hf
  refine (cmps_run ⟨a.toArray⟩ ⟨b.toArray⟩ w).mono ?_
  rintro e w' ⟨rfl,rfl⟩
  refine ⟨Below.refl _ _,?_⟩
  exact ⟨[.int .i64 (Lib.compareBytes a b)],rfl,by simp [Rep]⟩

/- strings.Compare -/
def c72:ACode :=
 (.seq (.reg (tm 4 (.c (.int .i64 0)) .done))
 (.seq (.reg (tm 5 (.t 0) (tm 6 (.t 1) (tq 7 (.call 105 [(.t 5),(.t 6)]) (tm 4 (.t 7) .done)))))
 .ret))
theorem fc72:fcomp Try.prog Try.f72 = some (c72.erase,[.mov (.t 4)],8):=by kernel_rfl
def strings_Compare (a_1:Str) (b_2:Str):Option Int :=
    (internal_bytealg_CompareString a_1 b_2).bind fun r_3 =>
    some r_3
theorem w_strings_Compare (a_1:Str) (b_2:Str) (r:Int) (hf:strings_Compare a_1 b_2 = some r):CallOK Try.prog 72 .flat [(.str a_1),(.str b_2)] (.int .i64 r):=by
  refine CallOK.of_awp mixed Try.func72 fc72 nle ?_
  rw [argT_eq]
  unfold strings_Compare at hf
  unfold c72
  refine (show awp Try.prog false 0 _ (ofL [(0,(.str a_1)),(1,(.str b_2))]) [] _ from ?_)
  refine awp_seq ?_
  refine w_reg ?_
  refine s_do (o_mov (.int .i64 0) rfl) ?_
  refine w_done ?_
  refine k_seq ?_
  refine awp_seq ?_
  refine w_reg ?_
  obtain ⟨r_3,er4,hf⟩:=ob hf
  refine s_do (o_mov (.str a_1) rfl) ?_
  refine s_do (o_mov (.str b_2) rfl) ?_
  refine s_do (o_call (w_internal_bytealg_CompareString _ _ _ er4) rfl (.refl _) rfl) ?_
  refine s_do (o_mov (.int .i64 r_3) rfl) ?_
  refine w_done ?_
  refine k_seq ?_
  refine w_ret ?_
  obtain rfl:=os hf
  exact r_flat ⟨trivial,trivial⟩ rfl (.refl _)

/- cmp.Or[int] -/
def c70:ACode :=
 (.seq (.reg (tm 2 (.c (.int .i64 0)) .done))
 (.seq (.reg (tm 3 (.c (.int .i64 0)) .done))
 (.seq (.seq (.reg (tm 6 (.t 0) (tq 7 (.len (.t 6)) (tm 8 (.c (.int .i64 0)) .done))))
 (.block 0 (.loop (.seq (.reg (tq 9 (.bin .lss (.t 8) (.t 7)) .done))
 (.seq (.cond (.t 9) .skip
 (.exit 0))
 (.seq (.block 1 (.seq (.reg (tq 10 (.iaddr 1 (.t 6) (.t 8)) (tq 11 (.load 1 false (.t 10)) (tm 5 (.t 11) .done))))
 (.seq (.reg (tm 12 (.t 5) (tm 13 (.t 3) (tq 14 (.bin .neq (.t 12) (.t 13)) .done))))
 (.cond (.t 14) (.seq (.reg (tm 15 (.t 5) (tm 2 (.t 15) .done)))
 .ret)
 .skip))))
 (.reg (tq 16 (.bin .add (.t 8) (.c (.int .i64 1))) (tm 8 (.t 16) .done)))))))))
 (.cut (.seq (.reg (tm 17 (.t 3) (tm 2 (.t 17) .done)))
 .ret)))))
theorem fc70:fcomp Try.prog Try.f70 = some (c70.erase,[.mov (.t 2)],18):=by kernel_rfl
def cmp_Or_int_L1 :List Int → Option (Fl Int Unit)
  | [] =>
    some (.go ())
  | x_24 :: xs =>
    if (x_24 != 0) then
    some (.ret x_24)
    else
    cmp_Or_int_L1 xs 

def cmp_Or_int (vals_1:(List Int)):Option Int :=
    (cmp_Or_int_L1 vals_1 ).bind fun q => (match q with
    | .ret r => some r
    | .go _ =>
    some 0)
theorem w_cmp_Or_int (vals_1:(List Int)) (r:Int) (hf:cmp_Or_int vals_1 = some r):CallOK Try.prog 70 .flat [(.lst 1 (vals_1.map encI))] (.int .i64 r):=by
 refine CallOK.of_awp mixed Try.func70 fc70 nle ?_;rw [argT_eq];unfold cmp_Or_int at hf;unfold c70;refine (show awp Try.prog false 0 _ (ofL [(0,(.lst 1 (vals_1.map encI)))]) [] _ from ?_);refine sr<|s_mov (.int .i64 0) rfl<|dk<|sr<|s_mov (.int .i64 0) rfl<|dk<|awp_seq<|sr<|s_mov (.lst 1 (vals_1.map encI)) rfl<|s_dof (o_len (enc:=encI) rfl) fun hl2 => s_mov (.int .i64 0) rfl<|dk<|?_
 obtain ⟨p17,hb1,hf⟩:=ob hf
 refine awp_cutx (X:={q:Unit // p17 = .go q}) (fun q => ([(3,(.int .i64 0))],[])) ?_ ?_
 ·refine awp_loop (X:={q:Nat // cmp_Or_int_L1 (vals_1.drop q)  = some p17}) (fun q => ([(3,(.int .i64 0)),(6,(.lst 1 (vals_1.map encI))),(7,(.int .i64 (vals_1.length:Int))),(8,(.int .i64 (q.1:Int)))],[])) (fun q => vals_1.length - q.1) ⟨0,hb1⟩ ⟨[],[],_,_,rfl,rfl,⟨.refl _,⟨.refl _,⟨.refl _,⟨.refl _,trivial⟩⟩⟩⟩,(.refl _)⟩ ?_
  rintro ⟨s8_12,hc1⟩
  have hc1:cmp_Or_int_L1 (vals_1.drop s8_12)  = some p17:=hc1
  refine (show awp Try.prog false 0 _ (ofL [(3,(.int .i64 0)),(6,(.lst 1 (vals_1.map encI))),(7,(.int .i64 (vals_1.length:Int))),(8,(.int .i64 (s8_12:Int)))]) [] _ from ?_)
  rcases dropc vals_1 s8_12 with ⟨hie20,hd23⟩ | ⟨hlt18,x_24,hx19,hd23⟩
  ·rw [hd23,cmp_Or_int_L1.eq_1] at hc1
   have hq22:=dlf hie20
   refine sr<|s_q (.bool (decide ((s8_12:Int) < (vals_1.length:Int)))) rfl rfl rfl<|dk<|awp_seq<|w_condf rfl hq22<|w_exit<|k_seqx<|k_loopx<|k_blkx<|?_;obtain rfl:=os hc1;exact k_cutn ⟨_,rfl⟩ ⟨[],[],_,_,rfl,rfl,⟨.refl _,trivial⟩,(.refl _)⟩
  ·rw [hd23,cmp_Or_int_L1.eq_2] at hc1
   have hq22:=dlt hlt18
   refine sr<|s_q (.bool (decide ((s8_12:Int) < (vals_1.length:Int)))) rfl rfl rfl<|dk<|awp_seq<|w_condt rfl hq22<|w_skip<|k_seq<|awp_seq<|w_blk<|sr<|s_do (o_iaddrn (enc:=encI) rfl rfl hx19)<|s_q (.int .i64 x_24) rfl ⟨rfl,rfl⟩ rfl<|s_mov (.int .i64 x_24) rfl<|dk<|sr<|s_mov (.int .i64 x_24) rfl<|s_mov (.int .i64 0) rfl<|s_q (.bool (x_24 != 0)) rfl rfl rfl<|dk<|?_
   rcases oi hc1 with ⟨c25,hc1⟩ | ⟨c25,hc1⟩
   ·refine w_condt rfl c25<|sr<|s_mov (.int .i64 x_24) rfl<|s_mov (.int .i64 x_24) rfl<|dk<|w_ret<|?_;obtain rfl:=os hc1;obtain rfl:=os hf;exact r_flat ⟨trivial,trivial⟩ rfl (.refl _)
   ·refine w_condf rfl (bf c25)<|w_skip<|k_blk<|k_seq<|w_reg<|s_q (.int .i64 (w64 ((s8_12:Int) + 1))) rfl rfl rfl<|s_mov (.int .i64 (w64 ((s8_12:Int) + 1))) rfl<|w_done<|?_;exact k_loopn ⟨(s8_12 + 1),hc1⟩ (mul hlt18) ⟨[],[],_,_,rfl,rfl,⟨.refl _,⟨.refl _,⟨.refl _,⟨.of_eq (congrArg (AV.int _) (w64_incr hlt18 hl2)),trivial⟩⟩⟩⟩,(.refl _)⟩
 ·rintro ⟨_,rfl⟩
  refine sr<|s_mov (.int .i64 0) rfl<|s_mov (.int .i64 0) rfl<|dk<|w_ret<|?_;obtain rfl:=os hf;exact r_flat ⟨trivial,trivial⟩ rfl (.refl _)

/- impl.compareAtoms -/
def c33:ACode :=
 (.seq (.reg (tq 2 (.box 3 (.t 0)) (tq 3 (.box 3 (.t 1)) (tm 4 (.c (.int .i64 0)) .done))))
 (.seq (.reg (tq 5 (.faddr 0 (.t 2)) (tq 6 (.load 1 false (.t 5)) (tq 7 (.faddr 0 (.t 3)) (tq 8 (.load 1 false (.t 7)) (tq 10 (.faddr 1 (.t 2)) (tq 11 (.load 1 false (.t 10)) (tq 12 (.faddr 1 (.t 3)) (tq 13 (.load 1 false (.t 12)) (tq 15 (.faddr 2 (.t 2)) (tq 16 (.load 1 false (.t 15)) (tq 17 (.faddr 2 (.t 3)) (tq 18 (.load 1 false (.t 17)) (.l ⟨(some 9),none,.call 71 [(.t 6),(.t 8)]⟩ [⟨(some 18),none,.load 1 false (.t 17)⟩,⟨(some 17),none,.faddr 2 (.t 3)⟩,⟨(some 16),none,.load 1 false (.t 15)⟩,⟨(some 15),none,.faddr 2 (.t 2)⟩,⟨(some 13),none,.load 1 false (.t 12)⟩,⟨(some 12),none,.faddr 1 (.t 3)⟩,⟨(some 11),none,.load 1 false (.t 10)⟩,⟨(some 10),none,.faddr 1 (.t 2)⟩]
 (.l ⟨(some 14),none,.call 71 [(.t 11),(.t 13)]⟩ [⟨(some 18),none,.load 1 false (.t 17)⟩,⟨(some 17),none,.faddr 2 (.t 3)⟩,⟨(some 16),none,.load 1 false (.t 15)⟩,⟨(some 15),none,.faddr 2 (.t 2)⟩]
 (.l ⟨(some 19),none,.call 72 [(.t 16),(.t 18)]⟩ []
 (.l ⟨(some 20),none,.bslice 1 [(.t 9),(.t 14),(.t 19)]⟩ []
 (.l ⟨(some 21),none,.call 70 [(.t 20)]⟩ []
 (tm 4 (.t 21) .done) .non) .non) .non) .non) .non))))))))))))))
 .ret))
theorem fc33:fcomp Try.prog Try.f33 = some (c33.erase,[.mov (.t 4)],22):=by kernel_rfl
def impl_compareAtoms (a_1:GAtom) (b_2:GAtom):Option Int :=
    (cmp_Compare_int a_1.Kind b_2.Kind).bind fun r_3 =>
    (cmp_Compare_int a_1.N b_2.N).bind fun r_5 =>
    (strings_Compare a_1.T b_2.T).bind fun r_7 =>
    (cmp_Or_int [r_3,r_5,r_7]).bind fun r_9 =>
    some r_9
theorem w_impl_compareAtoms (a_1:GAtom) (b_2:GAtom) (r:Int) (hf:impl_compareAtoms a_1 b_2 = some r):CallOK Try.prog 33 .flat [(encGAtom a_1),(encGAtom b_2)] (.int .i64 r):=by
 refine CallOK.of_awp mixed Try.func33 fc33 nle ?_;rw [argT_eq];unfold impl_compareAtoms at hf;unfold c33;refine (show awp Try.prog false 0 _ (ofL [(0,(encGAtom a_1)),(1,(encGAtom b_2))]) [] _ from ?_);refine sr<|s_do (o_box (j:=0) (c:=(.agg [(.int .i64 a_1.Kind),(.int .i64 a_1.N),(.str a_1.T)])) rfl trivial rfl rfl)<|s_do (o_box (j:=1) (c:=(.agg [(.int .i64 b_2.Kind),(.int .i64 b_2.N),(.str b_2.T)])) rfl trivial rfl rfl)<|s_mov (.int .i64 0) rfl<|dk<|sr<|s_q (.ptr 0 0 0) rfl trivial rfl<|s_q (.int .i64 a_1.Kind) rfl nle rfl<|s_q (.ptr 1 0 0) rfl trivial rfl<|s_q (.int .i64 b_2.Kind) rfl nle rfl<|s_q (.ptr 0 0 1) rfl trivial rfl<|s_q (.int .i64 a_1.N) rfl nle rfl<|?_
 refine s_q (.ptr 1 0 1) rfl trivial rfl<|s_q (.int .i64 b_2.N) rfl nle rfl<|s_q (.ptr 0 0 2) rfl trivial rfl<|s_q (.str a_1.T) rfl nle rfl<|s_q (.ptr 1 0 2) rfl trivial rfl<|s_q (.str b_2.T) rfl nle rfl<|?_
 obtain ⟨r_3,er4,hf⟩:=ob hf
 refine s_dol (o_call (w_cmp_Compare_int _ _ _ er4) rfl (.refl _) rfl) a_same trivial ?_
 obtain ⟨r_5,er6,hf⟩:=ob hf
 refine s_dol (o_call (w_cmp_Compare_int _ _ _ er6) rfl (.refl _) rfl) a_same trivial ?_
 obtain ⟨r_7,er8,hf⟩:=ob hf
 refine s_dol (o_call (w_strings_Compare _ _ _ er8) rfl (.refl _) rfl) a_same trivial ?_;refine s_dol (o_bslice (j:=2) (as':=[(.int .i64 r_3),(.int .i64 r_5),(.int .i64 r_7)]) rfl (fun _ => by decide) ⟨rfl,⟨rfl,⟨rfl,trivial⟩⟩⟩ (.refl _) rfl rfl rfl) trivial trivial ?_
 obtain ⟨r_9,er10,hf⟩:=ob hf
 refine s_dol (o_call (w_cmp_Or_int _ _ er10) rfl (.cons (.of_eq (congrArg (AV.lst _) (by rfl))) .nil) rfl) a_same trivial<|s_mov (.int .i64 r_9) rfl<|dk<|w_ret<|?_;obtain rfl:=os hf;exact r_flat ⟨trivial,trivial⟩ rfl (.refl _)

/- impl.DatumOK -/
def c11:ACode :=
 (.seq (.reg (tm 2 (.c (.bool false)) .done))
 (.seq (.seq (.reg (tm 5 (.t 0) (tq 6 (.len (.t 5)) (tm 7 (.c (.int .i64 0)) .done))))
 (.block 0 (.loop (.seq (.reg (tq 8 (.bin .lss (.t 7) (.t 6)) .done))
 (.seq (.cond (.t 8) .skip
 (.exit 0))
 (.seq (.block 1 (.seq (.reg (tm 9 (.t 7) (tq 10 (.iaddr 3 (.t 5) (.t 7)) (tq 11 (.load 3 true (.t 10)) (tq 4 (.box 3 (.c (.agg [(.int .i64 0),(.int .i64 0),(.str [])]))) (tm 3 (.t 9) (.q ⟨none,none,.store 3 (.t 4) (.t 11)⟩
 .done)))))))
 (.seq (.reg (tq 12 (.load 3 true (.t 4)) (.l ⟨(some 13),none,.call 32 [(.t 12)]⟩ []
 (tq 14 (.not (.t 13)) (tm 15 (.t 14) (tg 16 15 false (.faddr 0 (.t 4)) (tg 17 15 false (.load 1 false (.t 16)) (tg 18 15 false (.mov (.t 0)) (tg 19 15 false (.iaddr 3 (.t 18) (.c (.int .i64 0))) (tg 20 15 false (.faddr 0 (.t 19)) (tg 21 15 false (.load 1 false (.t 20)) (tg 22 15 false (.bin .neq (.t 17) (.t 21)) (tq 23 (.pick (.t 15) (.c (.bool true)) (.t 22)) (tm 24 (.t 23) (tg 25 24 false (.mov (.t 3)) (tg 26 24 false (.bin .gtr (.t 25) (.c (.int .i64 0))) (tg 27 24 false (.mov (.t 26)) (tg 28 27 true (.mov (.t 0)) (tg 29 27 true (.mov (.t 3)) (tg 30 27 true (.bin .sub (.t 29) (.c (.int .i64 1))) (tg 31 27 true (.iaddr 3 (.t 28) (.t 30)) (tg 32 27 true (.load 3 true (.t 31)) (tg 33 27 true (.load 3 true (.t 4)) (.l ⟨(some 34),(some (27,true)),.call 33 [(.t 32),(.t 33)]⟩ []
 (tg 35 27 true (.bin .geq (.t 34) (.c (.int .i64 0))) (tg 36 24 false (.pick (.t 27) (.t 35) (.c (.bool false))) (tq 37 (.pick (.t 24) (.c (.bool true)) (.t 36)) .done))) .non))))))))))))))))))))) .non)))
 (.cut (.cond (.t 37) (.seq (.reg (tm 2 (.c (.bool false)) .done))
 .ret)
 .skip)))))
 (.reg (tq 38 (.bin .add (.t 7) (.c (.int .i64 1))) (tm 7 (.t 38) .done)))))))))
 (.cut (.seq (.reg (tm 39 (.t 0) (tq 40 (.len (.t 39)) (tq 41 (.bin .leq (.t 40) (.c (.int .i64 8))) (tm 2 (.t 41) .done)))))
 .ret))))
theorem fc11:fcomp Try.prog Try.f11 = some (c11.erase,[.mov (.t 2)],42):=by kernel_rfl
def impl_DatumOK_L1 (d_1:(List GAtom)):List GAtom → Nat → Option (Fl Bool Unit)
  | [],s7_60 =>
    some (.go ())
  | x_96 :: xs,s7_60 =>
    (((impl_AtomOK x_96).bind fun r_110 =>
    if (!r_110) then
    some true
    else
    (idx d_1 0).bind fun x_113 =>
    if (x_96.Kind != x_113.Kind) then
    some true
    else
    if (decide ((s7_60:Int) > 0)) then
    (idx d_1 (w64 ((s7_60:Int) - 1))).bind fun x_117 =>
    (impl_compareAtoms x_117 x_96).bind fun r_119 =>
    some (decide (r_119 ≥ 0))
    else
    some false:Option Bool)).bind fun s37_108 =>
    if s37_108 then
    some (.ret false)
    else
    impl_DatumOK_L1 d_1 xs (s7_60 + 1)

def impl_DatumOK (d_1:(List GAtom)):Option Bool :=
    (impl_DatumOK_L1 d_1 d_1 0).bind fun q => (match q with
    | .ret r => some r
    | .go _ =>
    some (decide ((d_1.length:Int) ≤ 8)))
theorem w_impl_DatumOK (d_1:(List GAtom)) (r:Bool) (hf:impl_DatumOK d_1 = some r):CallOK Try.prog 11 .flat [(.lst 3 (d_1.map encGAtom))] (.bool r):=by
 refine CallOK.of_awp mixed Try.func11 fc11 nle ?_;rw [argT_eq];unfold impl_DatumOK at hf;unfold c11;refine (show awp Try.prog false 0 _ (ofL [(0,(.lst 3 (d_1.map encGAtom)))]) [] _ from ?_);refine sr<|s_mov (.bool false) rfl<|dk<|awp_seq<|sr<|s_mov (.lst 3 (d_1.map encGAtom)) rfl<|s_dof (o_len (enc:=encGAtom) rfl) fun hl2 => s_mov (.int .i64 0) rfl<|dk<|?_
 obtain ⟨p89,hb1,hf⟩:=ob hf
 refine awp_cutx (X:={q:Unit // p89 = .go q}) (fun q => ([(0,(.lst 3 (d_1.map encGAtom)))],[])) ?_ ?_
 ·refine awp_loop (X:={q:Nat // impl_DatumOK_L1 d_1 (d_1.drop q) q = some p89}) (fun q => ([(0,(.lst 3 (d_1.map encGAtom))),(5,(.lst 3 (d_1.map encGAtom))),(6,(.int .i64 (d_1.length:Int))),(7,(.int .i64 (q.1:Int)))],[])) (fun q => d_1.length - q.1) ⟨0,hb1⟩ ⟨[],[],_,_,rfl,rfl,⟨.refl _,⟨.refl _,⟨.refl _,⟨.refl _,trivial⟩⟩⟩⟩,(.refl _)⟩ ?_
  rintro ⟨s7_60,hc1⟩
  have hc1:impl_DatumOK_L1 d_1 (d_1.drop s7_60) s7_60 = some p89:=hc1
  refine (show awp Try.prog false 0 _ (ofL [(0,(.lst 3 (d_1.map encGAtom))),(5,(.lst 3 (d_1.map encGAtom))),(6,(.int .i64 (d_1.length:Int))),(7,(.int .i64 (s7_60:Int)))]) [] _ from ?_)
  rcases dropc d_1 s7_60 with ⟨hie92,hd95⟩ | ⟨hlt90,x_96,hx91,hd95⟩
  ·rw [hd95,impl_DatumOK_L1.eq_1] at hc1
   have hq94:=dlf hie92
   refine sr<|s_q (.bool (decide ((s7_60:Int) < (d_1.length:Int)))) rfl rfl rfl<|dk<|awp_seq<|w_condf rfl hq94<|w_exit<|k_seqx<|k_loopx<|k_blkx<|?_;obtain rfl:=os hc1;exact k_cutn ⟨_,rfl⟩ ⟨[],[],_,_,rfl,rfl,⟨.refl _,trivial⟩,(.refl _)⟩
  ·rw [hd95,impl_DatumOK_L1.eq_2] at hc1
   have hq94:=dlt hlt90
   refine sr<|s_q (.bool (decide ((s7_60:Int) < (d_1.length:Int)))) rfl rfl rfl<|dk<|awp_seq<|w_condt rfl hq94<|w_skip<|k_seq<|awp_seq<|w_blk<|sr<|s_mov (.int .i64 (s7_60:Int)) rfl<|s_do (o_iaddrn (enc:=encGAtom) rfl rfl hx91)<|s_q (encGAtom x_96) rfl nle rfl<|s_do (o_box (j:=0) (c:=(.agg [(.int .i64 0),(.int .i64 0),(.str [])])) rfl trivial rfl rfl)<|s_mov (.int .i64 (s7_60:Int)) rfl<|s_do0 (o_storebox (v:=(.agg [(.int .i64 x_96.Kind),(.int .i64 x_96.N),(.str x_96.T)])) (y':=(.agg [(.int .i64 x_96.Kind),(.int .i64 x_96.N),(.str x_96.T)])) rfl rfl rfl trivial ⟨rfl,nle⟩ ⟨⟨rfl,trivial⟩,⟨⟨rfl,trivial⟩,⟨⟨rfl,trivial⟩,trivial⟩⟩⟩ rfl)<|?_
   refine dk<|awp_seq<|?_
   obtain ⟨s37_108,hb2,hc1⟩:=ob hc1
   refine awp_cut ([(0,(.lst 3 (d_1.map encGAtom))),(5,(.lst 3 (d_1.map encGAtom))),(6,(.int .i64 (d_1.length:Int))),(7,(.int .i64 (s7_60:Int))),(37,(.bool s37_108))],[]) ?_ ?_
   ·refine w_reg<|s_q (.agg [(.int .i64 x_96.Kind),(.int .i64 x_96.N),(.str x_96.T)]) rfl nle rfl<|?_
    obtain ⟨r_110,er111,hb2⟩:=ob hb2
    refine s_dol (o_call (w_impl_AtomOK _ _ er111) rfl (.refl _) rfl) a_same trivial<|s_q (.bool (!r_110)) rfl trivial rfl<|s_mov (.bool (!r_110)) rfl<|?_
    rcases oi hb2 with ⟨c112,hb2⟩ | ⟨c112,hb2⟩
    ·refine s_lit (s:=15) (b:=true) rfl c112<|s_off rfl rfl<|s_off rfl rfl<|s_off rfl rfl<|s_off rfl rfl<|s_off rfl rfl<|s_off rfl rfl<|s_off rfl rfl<|s_q (.bool true) rfl trivial rfl<|s_mov (.bool true) rfl<|s_off rfl rfl<|s_off rfl rfl<|s_off rfl rfl<|s_offs rfl<|s_offs rfl<|s_offs rfl<|s_offs rfl<|s_offs rfl<|s_offs rfl<|s_offsl rfl trivial<|s_offs rfl<|s_off rfl rfl<|s_q (.bool true) rfl trivial rfl<|w_done<|?_;obtain rfl:=os hb2;exact ⟨[],[],_,_,rfl,rfl,⟨.refl _,⟨.refl _,⟨.refl _,⟨.refl _,⟨.refl _,trivial⟩⟩⟩⟩⟩,(.refl _)⟩
    ·refine s_lit (s:=15) (b:=false) rfl (bf c112)<|s_on rfl<|s_q (.ptr 0 0 0) rfl trivial rfl<|s_on rfl<|s_q (.int .i64 x_96.Kind) rfl nle rfl<|s_on rfl<|s_mov (.lst 3 (d_1.map encGAtom)) rfl<|s_on rfl<|?_
     obtain ⟨x_113,ex114,hb2⟩:=ob hb2
     refine s_do (o_iaddr (enc:=encGAtom) rfl rfl (idx0 ex114) (idx1 ex114))<|s_on rfl<|s_q (.iptr (encGAtom x_113) 0) rfl trivial rfl<|s_on rfl<|s_q (.int .i64 x_113.Kind) rfl nle rfl<|s_on rfl<|s_q (.bool (x_96.Kind != x_113.Kind)) rfl rfl rfl<|s_q (.bool (x_96.Kind != x_113.Kind)) rfl trivial rfl<|s_mov (.bool (x_96.Kind != x_113.Kind)) rfl<|?_
     rcases oi hb2 with ⟨c115,hb2⟩ | ⟨c115,hb2⟩
     ·refine s_lit (s:=24) (b:=true) rfl c115<|s_off rfl rfl<|s_off rfl rfl<|s_off rfl rfl<|s_offs rfl<|s_offs rfl<|s_offs rfl<|s_offs rfl<|s_offs rfl<|s_offs rfl<|s_offsl rfl trivial<|s_offs rfl<|s_off rfl rfl<|s_q (.bool true) rfl trivial rfl<|w_done<|?_;obtain rfl:=os hb2;exact ⟨[],[],_,_,rfl,rfl,⟨.refl _,⟨.refl _,⟨.refl _,⟨.refl _,⟨.refl _,trivial⟩⟩⟩⟩⟩,(.refl _)⟩
     ·refine s_lit (s:=24) (b:=false) rfl (bf c115)<|s_on rfl<|s_mov (.int .i64 (s7_60:Int)) rfl<|s_on rfl<|s_q (.bool (decide ((s7_60:Int) > 0))) rfl rfl rfl<|s_on rfl<|s_mov (.bool (decide ((s7_60:Int) > 0))) rfl<|?_
      rcases oi hb2 with ⟨c116,hb2⟩ | ⟨c116,hb2⟩
      ·refine s_lit (s:=27) (b:=true) rfl c116<|s_on rfl<|s_mov (.lst 3 (d_1.map encGAtom)) rfl<|s_on rfl<|s_mov (.int .i64 (s7_60:Int)) rfl<|s_on rfl<|s_q (.int .i64 (w64 ((s7_60:Int) - 1))) rfl rfl rfl<|s_on rfl<|?_
       obtain ⟨x_117,ex118,hb2⟩:=ob hb2
       refine s_do (o_iaddr (enc:=encGAtom) rfl rfl (idx0 ex118) (idx1 ex118))<|s_on rfl<|s_q (encGAtom x_117) rfl nle rfl<|s_on rfl<|s_q (.agg [(.int .i64 x_96.Kind),(.int .i64 x_96.N),(.str x_96.T)]) rfl nle rfl<|s_onl rfl<|?_
       obtain ⟨r_119,er120,hb2⟩:=ob hb2
       refine s_dol (o_call (w_impl_compareAtoms _ _ _ er120) rfl (.refl _) rfl) a_same trivial<|s_on rfl<|s_q (.bool (decide (r_119 ≥ 0))) rfl rfl rfl<|s_on rfl<|s_q (.bool (decide (r_119 ≥ 0))) rfl trivial rfl<|s_q (.bool (decide (r_119 ≥ 0))) rfl trivial rfl<|w_done<|?_;obtain rfl:=os hb2;exact ⟨[],[],_,_,rfl,rfl,⟨.refl _,⟨.refl _,⟨.refl _,⟨.refl _,⟨.refl _,trivial⟩⟩⟩⟩⟩,(.refl _)⟩
      ·refine s_lit (s:=27) (b:=false) rfl (bf c116)<|s_off rfl rfl<|s_off rfl rfl<|s_off rfl rfl<|s_off rfl rfl<|s_off rfl rfl<|s_off rfl rfl<|s_offl rfl rfl trivial<|s_off rfl rfl<|s_on rfl<|s_q (.bool false) rfl trivial rfl<|s_q (.bool false) rfl trivial rfl<|w_done<|?_;obtain rfl:=os hb2;exact ⟨[],[],_,_,rfl,rfl,⟨.refl _,⟨.refl _,⟨.refl _,⟨.refl _,⟨.refl _,trivial⟩⟩⟩⟩⟩,(.refl _)⟩
   ·rcases oi hc1 with ⟨c121,hc1⟩ | ⟨c121,hc1⟩
    ·refine w_condt rfl c121<|sr<|s_mov (.bool false) rfl<|dk<|w_ret<|?_;obtain rfl:=os hc1;obtain rfl:=os hf;exact r_flat ⟨trivial,trivial⟩ rfl (.refl _)
    ·refine w_condf rfl (bf c121)<|w_skip<|k_blk<|k_seq<|w_reg<|s_q (.int .i64 (w64 ((s7_60:Int) + 1))) rfl rfl rfl<|s_mov (.int .i64 (w64 ((s7_60:Int) + 1))) rfl<|w_done<|?_;exact k_loopn ⟨(s7_60 + 1),hc1⟩ (mul hlt90) ⟨[],[],_,_,rfl,rfl,⟨.refl _,⟨.refl _,⟨.refl _,⟨.of_eq (congrArg (AV.int _) (w64_incr hlt90 hl2)),trivial⟩⟩⟩⟩,(.refl _)⟩
 ·rintro ⟨_,rfl⟩
  refine sr<|s_mov (.lst 3 (d_1.map encGAtom)) rfl<|s_dof (o_len (enc:=encGAtom) rfl) fun hl122 => s_q (.bool (decide ((d_1.length:Int) ≤ 8))) rfl rfl rfl<|s_mov (.bool (decide ((d_1.length:Int) ≤ 8))) rfl<|dk<|w_ret<|?_;obtain rfl:=os hf;exact r_flat ⟨trivial,trivial⟩ rfl (.refl _)

/- impl.setOK$1 -/
def c110:ACode :=
 (.seq (.reg (tm 2 (.c (.bool false)) .done))
 (.seq (.reg (tm 3 (.t 0) (tq 4 (.call 74 [(.t 3)]) (tq 5 (.not (.t 4)) (tm 2 (.t 5) .done)))))
 .ret))
theorem fc110:fcomp Try.prog Try.f110 = some (c110.erase,[.mov (.t 2)],6):=by kernel_rfl
def impl_setOK_1 (name_1:Str):Option Bool :=
    (impl_NameOK name_1).bind fun r_2 =>
    some (!r_2)
theorem w_impl_setOK_1 (name_1:Str) (r:Bool) (hf:impl_setOK_1 name_1 = some r):CallOK Try.prog 110 .flat [(.str name_1)] (.bool r):=by
  refine CallOK.of_awp mixed Try.func110 fc110 nle ?_
  rw [argT_eq]
  unfold impl_setOK_1 at hf
  unfold c110
  refine (show awp Try.prog false 0 _ (ofL [(0,(.str name_1))]) [] _ from ?_)
  refine awp_seq ?_
  refine w_reg ?_
  refine s_do (o_mov (.bool false) rfl) ?_
  refine w_done ?_
  refine k_seq ?_
  refine awp_seq ?_
  refine w_reg ?_
  obtain ⟨r_2,er3,hf⟩:=ob hf
  refine s_do (o_mov (.str name_1) rfl) ?_
  refine s_do (o_call (w_impl_NameOK _ _ er3) rfl (.refl _) rfl) ?_
  refine s_do (o_q (.bool (!r_2)) rfl trivial rfl) ?_
  refine s_do (o_mov (.bool (!r_2)) rfl) ?_
  refine w_done ?_
  refine k_seq ?_
  refine w_ret ?_
  obtain rfl:=os hf
  exact r_flat ⟨trivial,trivial⟩ rfl (.refl _)

/- impl.setOK -/
def c80:ACode :=
 (.seq (.reg (tq 1 (.box 3 (.t 0)) (tm 2 (.c (.bool false)) .done)))
 (.seq (.seq (.reg (tq 3 (.faddr 0 (.t 1)) (tq 4 (.load 1 false (.t 3)) (tq 5 (.bslice 1 [(.t 4)]) (tq 6 (.call 100 [(.t 5)]) (tq 7 (.not (.t 6)) (tm 8 (.t 7) (tg 9 8 false (.faddr 1 (.t 1)) (tg 10 8 false (.load 1 false (.t 9)) (tg 11 8 false (.call 11 [(.t 10)]) (tg 12 8 false (.not (.t 11)) (tq 13 (.pick (.t 8) (.c (.bool true)) (.t 12)) (tm 14 (.t 13) (tg 15 14 false (.faddr 1 (.t 1)) (tg 16 14 false (.load 1 false (.t 15)) (tg 17 14 false (.len (.t 16)) (tg 18 14 false (.bin .gtr (.t 17) (.c (.int .i64 0))) (tg 19 14 false (.mov (.t 18)) (tg 20 19 true (.faddr 2 (.t 1)) (tg 21 19 true (.load 1 false (.t 20)) (tg 22 19 true (.len (.t 21)) (tg 23 19 true (.bin .gtr (.t 22) (.c (.int .i64 0))) (tg 24 14 false (.pick (.t 19) (.t 23) (.c (.bool false))) (tq 25 (.pick (.t 14) (.c (.bool true)) (.t 24)) (tm 26 (.t 25) (tg 27 26 false (.faddr 2 (.t 1)) (tg 28 26 false (.load 1 false (.t 27)) (tg 29 26 false (.len (.t 28)) (tg 30 26 false (.bin .gtr (.t 29) (.c (.int .i64 8))) (tq 31 (.pick (.t 26) (.c (.bool true)) (.t 30)) .done))))))))))))))))))))))))))))))
 (.cut (.cond (.t 31) (.seq (.reg (tm 2 (.c (.bool false)) .done))
 .ret)
 .skip)))
 (.seq (.reg (tq 32 (.faddr 2 (.t 1)) (tq 33 (.load 1 false (.t 32)) (tq 34 (.call 109 [(.t 33),(.c (.fn 110 []))]) (tq 35 (.not (.t 34)) (tm 2 (.t 35) .done))))))
 .ret)))
theorem fc80:fcomp Try.prog Try.f80 = some (c80.erase,[.mov (.t 2)],36):=by kernel_rfl
def impl_setOK (x_1:GSet):Option Bool :=
    (((impl_areShort [x_1.Column]).bind fun r_12 =>
    if (!r_12) then
    some true
    else
    (impl_DatumOK x_1.Value).bind fun r_15 =>
    some (bif (bif (!r_15) then true else (bif (decide ((x_1.Value.length:Int) > 0)) then (decide ((x_1.Names.length:Int) > 0)) else false)) then true else (decide ((x_1.Names.length:Int) > 8))):Option Bool)).bind fun s31_10 =>
    if s31_10 then
    some false
    else
    (slices_ContainsFunc_string_string x_1.Names impl_setOK_1).bind fun r_21 =>
    some (!r_21)
theorem w_impl_setOK (x_1:GSet) (r:Bool) (hf:impl_setOK x_1 = some r):CallOK Try.prog 80 .flat [(encGSet x_1)] (.bool r):=by
 refine CallOK.of_awp mixed Try.func80 fc80 nle ?_;rw [argT_eq];unfold impl_setOK at hf;unfold c80;refine (show awp Try.prog false 0 _ (ofL [(0,(encGSet x_1))]) [] _ from ?_);refine sr<|s_do (o_box (j:=0) (c:=(.agg [(.str x_1.Column),(.lst 3 (x_1.Value.map encGAtom)),(.lst 1 (x_1.Names.map AV.str))])) rfl trivial rfl rfl)<|s_mov (.bool false) rfl<|dk<|awp_seq<|awp_seq<|?_
 obtain ⟨s31_10,hb1,hf⟩:=ob hf
 refine awp_cut ([(1,(.ptr 0 0 0)),(31,(.bool s31_10))],[.box 3 (.agg [(.str x_1.Column),(.lst 3 (x_1.Value.map encGAtom)),(.lst 1 (x_1.Names.map AV.str))])]) ?_ ?_
 ·refine w_reg<|s_q (.ptr 0 0 0) rfl trivial rfl<|s_q (.str x_1.Column) rfl nle rfl<|?_;refine s_do (o_bslice (j:=1) (as':=[(.str x_1.Column)]) rfl (fun _ => by decide) ⟨rfl,trivial⟩ (.refl _) rfl rfl rfl) ?_
  obtain ⟨r_12,er13,hb1⟩:=ob hb1
  refine s_do (o_call (w_impl_areShort _ _ er13) rfl (.cons (.of_eq (congrArg (AV.lst _) (by rfl))) .nil) rfl)<|s_q (.bool (!r_12)) rfl trivial rfl<|s_mov (.bool (!r_12)) rfl<|?_
  rcases oi hb1 with ⟨c14,hb1⟩ | ⟨c14,hb1⟩
  ·refine s_lit (s:=8) (b:=true) rfl c14<|s_off rfl rfl<|s_off rfl rfl<|s_off rfl rfl<|s_off rfl rfl<|s_q (.bool true) rfl trivial rfl<|s_mov (.bool true) rfl<|s_off rfl rfl<|s_off rfl rfl<|s_off rfl rfl<|s_off rfl rfl<|s_off rfl rfl<|s_offs rfl<|s_offs rfl<|s_offs rfl<|s_offs rfl<|s_off rfl rfl<|s_q (.bool true) rfl trivial rfl<|s_mov (.bool true) rfl<|s_off rfl rfl<|s_off rfl rfl<|s_off rfl rfl<|s_off rfl rfl<|s_q (.bool true) rfl trivial rfl<|w_done<|?_;obtain rfl:=os hb1;exact ⟨[],[0],_,_,rfl,rfl,⟨.refl _,⟨.refl _,trivial⟩⟩,(.refl _)⟩
  ·refine s_lit (s:=8) (b:=false) rfl (bf c14)<|s_on rfl<|s_q (.ptr 0 0 1) rfl trivial rfl<|s_on rfl<|s_q (.lst 3 (x_1.Value.map encGAtom)) rfl nle rfl<|s_on rfl<|?_
   obtain ⟨r_15,er16,hb1⟩:=ob hb1
   refine s_do (o_call (w_impl_DatumOK _ _ er16) rfl (.refl _) rfl)<|s_on rfl<|s_q (.bool (!r_15)) rfl trivial rfl<|s_q (.bool (!r_15)) rfl trivial rfl<|s_mov (.bool (!r_15)) rfl<|?_;refine s_g (v:=(!r_15)) (.ptr 0 0 1) rfl (fun hv => by (try simp only [gs_on hv]);exact ⟨rfl,trivial,rfl⟩) ?_;refine s_g (v:=(!r_15)) (.lst 3 (x_1.Value.map encGAtom)) rfl (fun hv => by (try simp only [gs_on hv]);exact ⟨rfl,nle,rfl⟩) ?_;refine s_g (v:=(!r_15)) (.int .i64 (x_1.Value.length:Int)) rfl (fun hv => by (try simp only [gs_on hv]);exact ⟨rfl,trivial,lenV _ _⟩) ?_;refine s_g (v:=(!r_15)) (.bool (decide ((x_1.Value.length:Int) > 0))) rfl (fun hv => by (try simp only [gs_on hv]);exact ⟨rfl,rfl,rfl⟩) ?_
   refine s_g (v:=(!r_15)) (.bool (decide ((x_1.Value.length:Int) > 0))) rfl (fun hv => by (try simp only [gs_on hv]);exact ⟨rfl,trivial,rfl⟩) ?_;refine s_gg (v1:=(!r_15)) (b1:=false) (v2:=(decide ((x_1.Value.length:Int) > 0))) (.ptr 0 0 2) rfl (fun hv hw => by (try simp only [gs_on hv,gs_on hw]);exact ⟨rfl,trivial,rfl⟩) ?_;refine s_gg (v1:=(!r_15)) (b1:=false) (v2:=(decide ((x_1.Value.length:Int) > 0))) (.lst 1 (x_1.Names.map AV.str)) rfl (fun hv hw => by (try simp only [gs_on hv,gs_on hw]);exact ⟨rfl,nle,rfl⟩) ?_;refine s_gg (v1:=(!r_15)) (b1:=false) (v2:=(decide ((x_1.Value.length:Int) > 0))) (.int .i64 (x_1.Names.length:Int)) rfl (fun hv hw => by (try simp only [gs_on hv,gs_on hw]);exact ⟨rfl,trivial,lenV _ _⟩) ?_
   refine s_gg (v1:=(!r_15)) (b1:=false) (v2:=(decide ((x_1.Value.length:Int) > 0))) (.bool (decide ((x_1.Names.length:Int) > 0))) rfl (fun hv hw => by (try simp only [gs_on hv,gs_on hw]);exact ⟨rfl,rfl,rfl⟩) ?_;refine s_gp (v1:=(!r_15)) (b1:=false) (v2:=(decide ((x_1.Value.length:Int) > 0))) (x:=(decide ((x_1.Names.length:Int) > 0))) (y:=false) rfl (fun hv => by (try simp only [gs_on hv]);rfl) (fun hv hw => by (try simp only [gs_on hv,gs_on hw]);rfl) (fun hv hw => by (try simp only [gs_on hv,gs_on hw]);rfl) ?_;refine s_pick (x:=true) (y:=(bif (decide ((x_1.Value.length:Int) > 0)) then (decide ((x_1.Names.length:Int) > 0)) else false)) rfl (fun hv => by (try simp only [gs_on hv]);rfl) (fun hv => by (try simp only [gs_on hv]);rfl) ?_
   refine s_mov (.bool (bif (!r_15) then true else (bif (decide ((x_1.Value.length:Int) > 0)) then (decide ((x_1.Names.length:Int) > 0)) else false))) rfl ?_;refine s_g (v:=(bif (!r_15) then true else (bif (decide ((x_1.Value.length:Int) > 0)) then (decide ((x_1.Names.length:Int) > 0)) else false))) (.ptr 0 0 2) rfl (fun hv => by (try simp only [gs_on hv]);exact ⟨rfl,trivial,rfl⟩) ?_;refine s_g (v:=(bif (!r_15) then true else (bif (decide ((x_1.Value.length:Int) > 0)) then (decide ((x_1.Names.length:Int) > 0)) else false))) (.lst 1 (x_1.Names.map AV.str)) rfl (fun hv => by (try simp only [gs_on hv]);exact ⟨rfl,nle,rfl⟩) ?_;refine s_g (v:=(bif (!r_15) then true else (bif (decide ((x_1.Value.length:Int) > 0)) then (decide ((x_1.Names.length:Int) > 0)) else false))) (.int .i64 (x_1.Names.length:Int)) rfl (fun hv => by (try simp only [gs_on hv]);exact ⟨rfl,trivial,lenV _ _⟩) ?_
   refine s_g (v:=(bif (!r_15) then true else (bif (decide ((x_1.Value.length:Int) > 0)) then (decide ((x_1.Names.length:Int) > 0)) else false))) (.bool (decide ((x_1.Names.length:Int) > 8))) rfl (fun hv => by (try simp only [gs_on hv]);exact ⟨rfl,rfl,rfl⟩) ?_;refine s_pick (x:=true) (y:=(decide ((x_1.Names.length:Int) > 8))) rfl (fun hv => by (try simp only [gs_on hv]);rfl) (fun hv => by (try simp only [gs_on hv]);rfl) ?_;refine w_done ?_;obtain rfl:=os hb1;exact ⟨[],[0],_,_,rfl,rfl,⟨.refl _,⟨.refl _,trivial⟩⟩,(.refl _)⟩
 ·rcases oi hf with ⟨c20,hf⟩ | ⟨c20,hf⟩
  ·refine w_condt rfl c20<|sr<|s_mov (.bool false) rfl<|dk<|w_ret<|?_;obtain rfl:=os hf;exact r_flat ⟨trivial,trivial⟩ rfl (.refl _)
  ·refine w_condf rfl (bf c20)<|w_skip<|k_seq<|sr<|?_
   obtain ⟨r_21,er22,hf⟩:=ob hf
   refine s_q (.ptr 0 0 2) rfl trivial rfl<|s_q (.lst 1 (x_1.Names.map AV.str)) rfl nle rfl<|?_;refine s_do (o_call (w_slices_ContainsFunc_string_string _ _ _ er22 110 [] (by kernel_rfl) (fun _ _ => rfl) (fun _ => rfl) (fun a0 r h => w_impl_setOK_1 a0 r h)) rfl (.refl _) rfl) ?_;refine s_q (.bool (!r_21)) rfl trivial rfl<|s_mov (.bool (!r_21)) rfl<|dk<|w_ret<|?_;obtain rfl:=os hf;exact r_flat ⟨trivial,trivial⟩ rfl (.refl _)

/- impl.setsOK$1 -/
def c79:ACode :=
 (.seq (.reg (tq 1 (.box 3 (.t 0)) (tm 2 (.c (.bool false)) .done)))
 (.seq (.reg (tq 3 (.load 3 true (.t 1)) (tq 4 (.call 80 [(.t 3)]) (tq 5 (.not (.t 4)) (tm 2 (.t 5) .done)))))
 .ret))
theorem fc79:fcomp Try.prog Try.f79 = some (c79.erase,[.mov (.t 2)],6):=by kernel_rfl
def impl_setsOK_1 (x_1:GSet):Option Bool :=
    (impl_setOK x_1).bind fun r_2 =>
    some (!r_2)
theorem w_impl_setsOK_1 (x_1:GSet) (r:Bool) (hf:impl_setsOK_1 x_1 = some r):CallOK Try.prog 79 .flat [(encGSet x_1)] (.bool r):=by
  refine CallOK.of_awp mixed Try.func79 fc79 nle ?_
  rw [argT_eq]
  unfold impl_setsOK_1 at hf
  unfold c79
  refine (show awp Try.prog false 0 _ (ofL [(0,(encGSet x_1))]) [] _ from ?_)
  refine awp_seq ?_
  refine w_reg ?_
  refine s_do (o_box (j:=0) (c:=(.agg [(.str x_1.Column),(.lst 3 (x_1.Value.map encGAtom)),(.lst 1 (x_1.Names.map AV.str))])) rfl trivial rfl rfl) ?_
  refine s_do (o_mov (.bool false) rfl) ?_
  refine w_done ?_
  refine k_seq ?_
  refine awp_seq ?_
  refine w_reg ?_
  obtain ⟨r_2,er3,hf⟩:=ob hf
  refine s_do (o_q (.agg [(.str x_1.Column),(.lst 3 (x_1.Value.map encGAtom)),(.lst 1 (x_1.Names.map AV.str))]) rfl nle rfl) ?_
  refine s_do (o_call (w_impl_setOK _ _ er3) rfl (.refl _) rfl) ?_
  refine s_do (o_q (.bool (!r_2)) rfl trivial rfl) ?_
  refine s_do (o_mov (.bool (!r_2)) rfl) ?_
  refine w_done ?_
  refine k_seq ?_
  refine w_ret ?_
  obtain rfl:=os hf
  exact r_flat ⟨trivial,trivial⟩ rfl (.refl _)

/- impl.setsOK -/
def c42:ACode :=
 (.seq (.reg (tm 2 (.c (.bool false)) .done))
 (.seq (.reg (tm 3 (.t 0) (tq 4 (.len (.t 3)) (tq 5 (.bin .leq (.t 4) (.c (.int .i64 6))) (tm 6 (.t 5) (tg 7 6 true (.mov (.t 0)) (tg 8 6 true (.call 39 [(.t 7),(.c (.fn 79 []))]) (tg 9 6 true (.not (.t 8)) (tq 10 (.pick (.t 6) (.t 9) (.c (.bool false))) (tm 2 (.t 10) .done))))))))))
 .ret))
theorem fc42:fcomp Try.prog Try.f42 = some (c42.erase,[.mov (.t 2)],11):=by kernel_rfl
def impl_setsOK (list_1:(List GSet)):Option Bool :=
    if (decide ((list_1.length:Int) ≤ 6)) then
    (slices_ContainsFunc_impl_Set_impl_Set list_1 impl_setsOK_1).bind fun r_4 =>
    some (!r_4)
    else
    some false
theorem w_impl_setsOK (list_1:(List GSet)) (r:Bool) (hf:impl_setsOK list_1 = some r):CallOK Try.prog 42 .flat [(.lst 3 (list_1.map encGSet))] (.bool r):=by
 refine CallOK.of_awp mixed Try.func42 fc42 nle ?_;rw [argT_eq];unfold impl_setsOK at hf;unfold c42;refine (show awp Try.prog false 0 _ (ofL [(0,(.lst 3 (list_1.map encGSet)))]) [] _ from ?_);refine sr<|s_mov (.bool false) rfl<|dk<|sr<|?_
 rcases oi hf with ⟨c3,hf⟩ | ⟨c3,hf⟩
 ·obtain ⟨r_4,er5,hf⟩:=ob hf
  refine s_mov (.lst 3 (list_1.map encGSet)) rfl<|s_dof (o_len (enc:=encGSet) rfl) fun hl2 => s_q (.bool (decide ((list_1.length:Int) ≤ 6))) rfl rfl rfl<|s_mov (.bool (decide ((list_1.length:Int) ≤ 6))) rfl<|s_lit (s:=6) (b:=true) rfl c3<|s_on rfl<|s_mov (.lst 3 (list_1.map encGSet)) rfl<|s_on rfl<|?_;refine s_do (o_call (w_slices_ContainsFunc_impl_Set_impl_Set _ _ _ er5 79 [] (by kernel_rfl) (fun _ _ => rfl) (fun _ => rfl) (fun a0 r h => w_impl_setsOK_1 a0 r h)) rfl (.refl _) rfl) ?_;refine s_on rfl<|s_q (.bool (!r_4)) rfl trivial rfl<|s_q (.bool (!r_4)) rfl trivial rfl<|s_mov (.bool (!r_4)) rfl<|dk<|w_ret<|?_;obtain rfl:=os hf;exact r_flat ⟨trivial,trivial⟩ rfl (.refl _)
 ·refine s_mov (.lst 3 (list_1.map encGSet)) rfl<|s_dof (o_len (enc:=encGSet) rfl) fun hl2 => s_q (.bool (decide ((list_1.length:Int) ≤ 6))) rfl rfl rfl<|s_mov (.bool (decide ((list_1.length:Int) ≤ 6))) rfl<|s_lit (s:=6) (b:=false) rfl (bf c3)<|s_off rfl rfl<|s_off rfl rfl<|s_off rfl rfl<|s_q (.bool false) rfl trivial rfl<|s_mov (.bool false) rfl<|dk<|w_ret<|?_;obtain rfl:=os hf;exact r_flat ⟨trivial,trivial⟩ rfl (.refl _)

/- slices.IndexFunc[[]impl.Atom,impl.Atom] -/
def c117:ACode :=
 (.seq (.reg (tm 4 (.c (.int .i64 0)) .done))
 (.seq (.seq (.reg (tm 6 (.t 0) (tq 7 (.len (.t 6)) (tm 8 (.c (.int .i64 0)) .done))))
 (.block 0 (.loop (.seq (.reg (tq 9 (.bin .lss (.t 8) (.t 7)) .done))
 (.seq (.cond (.t 9) .skip
 (.exit 0))
 (.seq (.block 1 (.seq (.reg (tm 10 (.t 8) (tm 5 (.t 10) .done)))
 (.seq (.reg (tm 11 (.t 1) (tm 12 (.t 0) (tm 13 (.t 5) (tq 14 (.iaddr 3 (.t 12) (.t 13)) (tq 15 (.load 3 true (.t 14)) (tq 16 (.calv (.t 11) [(.t 15)]) .done)))))))
 (.cond (.t 16) (.seq (.reg (tm 17 (.t 5) (tm 4 (.t 17) .done)))
 .ret)
 .skip))))
 (.reg (tq 18 (.bin .add (.t 8) (.c (.int .i64 1))) (tm 8 (.t 18) .done)))))))))
 (.cut (.seq (.reg (tq 4 (.mov (.c (.int .i64 (-1)))) .done))
 .ret))))
theorem fc117:fcomp Try.prog Try.f117 = some (c117.erase,[.mov (.t 4)],19):=by kernel_rfl
def slices_IndexFunc_impl_Atom_impl_Atom_L1 (f_2:(GAtom → Option Bool)):List GAtom → Nat → Option (Fl Int Unit)
  | [],s8_17 =>
    some (.go ())
  | x_31 :: xs,s8_17 =>
    (f_2 x_31).bind fun r_32 =>
    if r_32 then
    some (.ret (s8_17:Int))
    else
    slices_IndexFunc_impl_Atom_impl_Atom_L1 f_2 xs (s8_17 + 1)

def slices_IndexFunc_impl_Atom_impl_Atom (s_1:(List GAtom)) (f_2:(GAtom → Option Bool)):Option Int :=
    (slices_IndexFunc_impl_Atom_impl_Atom_L1 f_2 s_1 0).bind fun q => (match q with
    | .ret r => some r
    | .go _ =>
    some (-1))
theorem w_slices_IndexFunc_impl_Atom_impl_Atom (s_1:(List GAtom)) (f_2:(GAtom → Option Bool)) (r:Int) (hf:slices_IndexFunc_impl_Atom_impl_Atom s_1 f_2 = some r) (kf_f_2:Nat) (cf_f_2:List AV) (okf_f_2:okFn Try.prog kf_f_2 = true) (hcf_f_2:∀ h p,closeWs h p cf_f_2 = some cf_f_2) (hrf_f_2:∀ f,rens f cf_f_2 = cf_f_2) (hpf_f_2:∀ a0 r,f_2 a0 = some r → CallOK Try.prog kf_f_2 .flat ([(encGAtom a0)] ++ cf_f_2) (.bool r)):CallOK Try.prog 117 .flat [(.lst 3 (s_1.map encGAtom)),(.fn kf_f_2 cf_f_2)] (.int .i64 r):=by
 refine CallOK.of_awp mixed Try.func117 fc117 nle ?_;rw [argT_eq];unfold slices_IndexFunc_impl_Atom_impl_Atom at hf;unfold c117;refine (show awp Try.prog false 0 _ (ofL [(0,(.lst 3 (s_1.map encGAtom))),(1,(.fn kf_f_2 cf_f_2))]) [] _ from ?_);refine sr<|s_mov (.int .i64 0) rfl<|dk<|awp_seq<|sr<|s_mov (.lst 3 (s_1.map encGAtom)) rfl<|s_dof (o_len (enc:=encGAtom) rfl) fun hl3 => s_mov (.int .i64 0) rfl<|dk<|?_
 obtain ⟨p24,hb1,hf⟩:=ob hf
 refine awp_cutx (X:={q:Unit // p24 = .go q}) (fun q => ([],[])) ?_ ?_
 ·refine awp_loop (X:={q:Nat // slices_IndexFunc_impl_Atom_impl_Atom_L1 f_2 (s_1.drop q) q = some p24}) (fun q => ([(0,(.lst 3 (s_1.map encGAtom))),(1,(.fn kf_f_2 cf_f_2)),(7,(.int .i64 (s_1.length:Int))),(8,(.int .i64 (q.1:Int)))],[])) (fun q => s_1.length - q.1) ⟨0,hb1⟩ ⟨[],[],_,_,rfl,rfl,⟨.refl _,⟨.of_eq (congrArg (AV.fn _) (hrf_f_2 _)),⟨.refl _,⟨.refl _,trivial⟩⟩⟩⟩,(.refl _)⟩ ?_
  rintro ⟨s8_17,hc1⟩
  have hc1:slices_IndexFunc_impl_Atom_impl_Atom_L1 f_2 (s_1.drop s8_17) s8_17 = some p24:=hc1
  refine (show awp Try.prog false 0 _ (ofL [(0,(.lst 3 (s_1.map encGAtom))),(1,(.fn kf_f_2 cf_f_2)),(7,(.int .i64 (s_1.length:Int))),(8,(.int .i64 (s8_17:Int)))]) [] _ from ?_)
  rcases dropc s_1 s8_17 with ⟨hie27,hd30⟩ | ⟨hlt25,x_31,hx26,hd30⟩
  ·rw [hd30,slices_IndexFunc_impl_Atom_impl_Atom_L1.eq_1] at hc1
   have hq29:=dlf hie27
   refine sr<|s_q (.bool (decide ((s8_17:Int) < (s_1.length:Int)))) rfl rfl rfl<|dk<|awp_seq<|w_condf rfl hq29<|w_exit<|k_seqx<|k_loopx<|k_blkx<|?_;obtain rfl:=os hc1;exact k_cutn ⟨_,rfl⟩ ⟨[],[],_,_,rfl,rfl,trivial,(.refl _)⟩
  ·rw [hd30,slices_IndexFunc_impl_Atom_impl_Atom_L1.eq_2] at hc1
   have hq29:=dlt hlt25
   refine sr<|s_q (.bool (decide ((s8_17:Int) < (s_1.length:Int)))) rfl rfl rfl<|dk<|awp_seq<|w_condt rfl hq29<|w_skip<|k_seq<|awp_seq<|w_blk<|sr<|s_mov (.int .i64 (s8_17:Int)) rfl<|s_mov (.int .i64 (s8_17:Int)) rfl<|dk<|sr<|?_
   obtain ⟨r_32,er33,hc1⟩:=ob hc1
   refine s_mov (.fn kf_f_2 cf_f_2) rfl<|s_mov (.lst 3 (s_1.map encGAtom)) rfl<|s_mov (.int .i64 (s8_17:Int)) rfl<|s_do (o_iaddrn (enc:=encGAtom) rfl rfl hx26)<|s_q (encGAtom x_31) rfl nle rfl<|s_do (o_calvp (v:=(.bool r_32)) rfl okf_f_2 hcf_f_2 (hpf_f_2 _ _ er33) rfl (.refl _) rfl)<|dk<|?_
   rcases oi hc1 with ⟨c34,hc1⟩ | ⟨c34,hc1⟩
   ·refine w_condt rfl c34<|sr<|s_mov (.int .i64 (s8_17:Int)) rfl<|s_mov (.int .i64 (s8_17:Int)) rfl<|dk<|w_ret<|?_;obtain rfl:=os hc1;obtain rfl:=os hf;exact r_flat ⟨trivial,trivial⟩ rfl (.refl _)
   ·refine w_condf rfl (bf c34)<|w_skip<|k_blk<|k_seq<|w_reg<|s_q (.int .i64 (w64 ((s8_17:Int) + 1))) rfl rfl rfl<|s_mov (.int .i64 (w64 ((s8_17:Int) + 1))) rfl<|w_done<|?_;exact k_loopn ⟨(s8_17 + 1),hc1⟩ (mul hlt25) ⟨[],[],_,_,rfl,rfl,⟨.refl _,⟨.of_eq (congrArg (AV.fn _) (hrf_f_2 _)),⟨.refl _,⟨.of_eq (congrArg (AV.int _) (w64_incr hlt25 hl3)),trivial⟩⟩⟩⟩,(.refl _)⟩
 ·rintro ⟨_,rfl⟩
  refine sr<|s_mov (.int .i64 (-1)) rfl<|dk<|w_ret<|?_;obtain rfl:=os hf;exact r_flat ⟨trivial,trivial⟩ rfl (.refl _)

/- slices.ContainsFunc[[]impl.Atom,impl.Atom] -/
def c98:ACode :=
 (.seq (.reg (tm 4 (.c (.bool false)) .done))
 (.seq (.reg (tm 5 (.t 0) (tm 6 (.t 1) (tq 7 (.call 117 [(.t 5),(.t 6)]) (tq 8 (.bin .geq (.t 7) (.c (.int .i64 0))) (tm 4 (.t 8) .done))))))
 .ret))
theorem fc98:fcomp Try.prog Try.f98 = some (c98.erase,[.mov (.t 4)],9):=by kernel_rfl
def slices_ContainsFunc_impl_Atom_impl_Atom (s_1:(List GAtom)) (f_2:(GAtom → Option Bool)):Option Bool :=
    (slices_IndexFunc_impl_Atom_impl_Atom s_1 f_2).bind fun r_3 =>
    some (decide (r_3 ≥ 0))
theorem w_slices_ContainsFunc_impl_Atom_impl_Atom (s_1:(List GAtom)) (f_2:(GAtom → Option Bool)) (r:Bool) (hf:slices_ContainsFunc_impl_Atom_impl_Atom s_1 f_2 = some r) (kf_f_2:Nat) (cf_f_2:List AV) (okf_f_2:okFn Try.prog kf_f_2 = true) (hcf_f_2:∀ h p,closeWs h p cf_f_2 = some cf_f_2) (hrf_f_2:∀ f,rens f cf_f_2 = cf_f_2) (hpf_f_2:∀ a0 r,f_2 a0 = some r → CallOK Try.prog kf_f_2 .flat ([(encGAtom a0)] ++ cf_f_2) (.bool r)):CallOK Try.prog 98 .flat [(.lst 3 (s_1.map encGAtom)),(.fn kf_f_2 cf_f_2)] (.bool r):=by
 refine CallOK.of_awp mixed Try.func98 fc98 nle ?_;rw [argT_eq];unfold slices_ContainsFunc_impl_Atom_impl_Atom at hf;unfold c98;refine (show awp Try.prog false 0 _ (ofL [(0,(.lst 3 (s_1.map encGAtom))),(1,(.fn kf_f_2 cf_f_2))]) [] _ from ?_);refine sr<|s_mov (.bool false) rfl<|dk<|sr<|?_
 obtain ⟨r_3,er4,hf⟩:=ob hf
 refine s_mov (.lst 3 (s_1.map encGAtom)) rfl<|s_mov (.fn kf_f_2 cf_f_2) rfl<|s_do (o_call (w_slices_IndexFunc_impl_Atom_impl_Atom _ _ _ er4 kf_f_2 cf_f_2 okf_f_2 hcf_f_2 hrf_f_2 hpf_f_2) (cls_cons rfl (cls_cons (cls_fn hcf_f_2) rfl)) (.refl _) rfl)<|s_q (.bool (decide (r_3 ≥ 0))) rfl rfl rfl<|s_mov (.bool (decide (r_3 ≥ 0))) rfl<|dk<|w_ret<|?_;obtain rfl:=os hf;exact r_flat ⟨trivial,trivial⟩ rfl (.refl _)

/- (impl.Column).fits$1 -/
def c99:ACode :=
 (.seq (.reg (tq 2 (.box 3 (.t 0)) (tm 3 (.c (.bool false)) .done)))
 (.seq (.reg (tq 4 (.faddr 1 (.t 2)) (tq 5 (.load 1 false (.t 4)) (tq 6 (.faddr 4 (.t 1)) (tq 7 (.load 1 false (.t 6)) (tq 8 (.faddr 5 (.t 1)) (tq 9 (.load 1 false (.t 8)) (tq 10 (.call 69 [(.t 5),(.t 7),(.t 9)]) (tq 11 (.not (.t 10)) (tm 3 (.t 11) .done))))))))))
 .ret))
theorem fc99:fcomp Try.prog Try.f99 = some (c99.erase,[.mov (.t 3)],12):=by kernel_rfl
def impl_Column_fits_1 (a_1:GAtom) (cap_2:GColumn):Option Bool :=
    (impl_within a_1.N cap_2.Low cap_2.High).bind fun r_3 =>
    some (!r_3)
theorem w_impl_Column_fits_1 (a_1:GAtom) (cap_2:GColumn) (r:Bool) (hf:impl_Column_fits_1 a_1 cap_2 = some r):CallOK Try.prog 99 .flat [(encGAtom a_1),(.iptr (encGColumn cap_2) 0)] (.bool r):=by
  refine CallOK.of_awp mixed Try.func99 fc99 nle ?_
  rw [argT_eq]
  unfold impl_Column_fits_1 at hf
  unfold c99
  refine (show awp Try.prog false 0 _ (ofL [(0,(encGAtom a_1)),(1,(.iptr (encGColumn cap_2) 0))]) [] _ from ?_)
  refine awp_seq ?_
  refine w_reg ?_
  refine s_do (o_box (j:=0) (c:=(.agg [(.int .i64 a_1.Kind),(.int .i64 a_1.N),(.str a_1.T)])) rfl trivial rfl rfl) ?_
  refine s_do (o_mov (.bool false) rfl) ?_
  refine w_done ?_
  refine k_seq ?_
  refine awp_seq ?_
  refine w_reg ?_
  obtain ⟨r_3,er4,hf⟩:=ob hf
  refine s_do (o_q (.ptr 0 0 1) rfl trivial rfl) ?_
  refine s_do (o_q (.int .i64 a_1.N) rfl nle rfl) ?_
  refine s_do (o_q (.iptr (encGColumn cap_2) 4) rfl trivial rfl) ?_
  refine s_do (o_q (.int .i64 cap_2.Low) rfl nle rfl) ?_
  refine s_do (o_q (.iptr (encGColumn cap_2) 5) rfl trivial rfl) ?_
  refine s_do (o_q (.int .i64 cap_2.High) rfl nle rfl) ?_
  refine s_do (o_call (w_impl_within _ _ _ _ er4) rfl (.refl _) rfl) ?_
  refine s_do (o_q (.bool (!r_3)) rfl trivial rfl) ?_
  refine s_do (o_mov (.bool (!r_3)) rfl) ?_
  refine w_done ?_
  refine k_seq ?_
  refine w_ret ?_
  obtain rfl:=os hf
  exact r_flat ⟨trivial,trivial⟩ rfl (.refl _)

/- (impl.Column).fits -/
def c60:ACode :=
 (.seq (.reg (tq 2 (.box 8 (.t 0)) (tm 4 (.c (.int .i64 0)) .done)))
 (.seq (.block 0 (.seq (.reg (tm 6 (.t 1) (tq 7 (.len (.t 6)) (tq 8 (.bin .gtr (.t 7) (.c (.int .i64 0))) (tm 9 (.t 8) (tg 10 9 true (.mov (.t 1)) (tg 11 9 true (.iaddr 3 (.t 10) (.c (.int .i64 0))) (tg 12 9 true (.faddr 0 (.t 11)) (tg 13 9 true (.load 1 false (.t 12)) (tg 14 9 true (.faddr 1 (.t 2)) (tg 15 9 true (.load 1 false (.t 14)) (tg 16 9 true (.bin .neq (.t 13) (.t 15)) (tq 17 (.pick (.t 9) (.t 16) (.c (.bool false))) (tm 5 (.t 17) .done))))))))))))))
 (.cut (.cond (.t 5) (.seq (.reg (tm 4 (.c (.int .i64 9)) .done))
 .ret)
 (.seq (.reg (tm 19 (.t 1) (tq 20 (.len (.t 19)) (tq 21 (.faddr 2 (.t 2)) (tq 22 (.load 1 false (.t 21)) (tq 23 (.faddr 3 (.t 2)) (tq 24 (.load 1 false (.t 23)) (tq 25 (.call 69 [(.t 20),(.t 22),(.t 24)]) (tq 26 (.not (.t 25)) (tm 18 (.t 26) .done))))))))))
 (.cond (.t 18) (.seq (.reg (tm 4 (.c (.int .i64 6)) .done))
 .ret)
 (.seq (.reg (tq 28 (.faddr 1 (.t 2)) (tq 29 (.load 1 false (.t 28)) (tq 30 (.bin .eql (.t 29) (.c (.int .i64 1))) (tm 31 (.t 30) (tg 32 31 true (.mov (.t 1)) (tg 33 31 true (.mkfn 99 [(.t 2)]) (tg 34 31 true (.call 98 [(.t 32),(.t 33)]) (tq 35 (.pick (.t 31) (.t 34) (.c (.bool false))) (tm 27 (.t 35) .done))))))))))
 (.cut (.cond (.t 27) (.seq (.reg (tm 4 (.c (.int .i64 4)) .done))
 .ret)
 .skip)))))))))
 (.seq (.reg (tm 4 (.c (.int .i64 0)) .done))
 .ret)))
theorem fc60:fcomp Try.prog Try.f60 = some (c60.erase,[.mov (.t 4)],36):=by kernel_rfl
def impl_Column_fits (c_1:GColumn) (d_2:(List GAtom)):Option Int :=
    ((if (decide ((d_2.length:Int) > 0)) then
    (idx d_2 0).bind fun x_11 =>
    some (x_11.Kind != c_1.Kind)
    else
    some false:Option Bool)).bind fun s5_7 =>
    if s5_7 then
    some 9
    else
    (impl_within (d_2.length:Int) c_1.Min c_1.Max).bind fun r_15 =>
    if (!r_15) then
    some 6
    else
    ((if (c_1.Kind == 1) then
    (slices_ContainsFunc_impl_Atom_impl_Atom d_2 (fun a0 => impl_Column_fits_1 a0 c_1)).bind fun r_24 =>
    some r_24
    else
    some false:Option Bool)).bind fun s27_21 =>
    if s27_21 then
    some 4
    else
    some 0
theorem w_impl_Column_fits (c_1:GColumn) (d_2:(List GAtom)) (r:Int) (hf:impl_Column_fits c_1 d_2 = some r):CallOK Try.prog 60 .flat [(encGColumn c_1),(.lst 3 (d_2.map encGAtom))] (.int .i64 r):=by
 refine CallOK.of_awp mixed Try.func60 fc60 nle ?_;rw [argT_eq];unfold impl_Column_fits at hf;unfold c60;refine (show awp Try.prog false 0 _ (ofL [(0,(encGColumn c_1)),(1,(.lst 3 (d_2.map encGAtom)))]) [] _ from ?_);refine sr<|s_do (o_box (j:=0) (c:=(.agg [(.str c_1.Name),(.int .i64 c_1.Kind),(.int .i64 c_1.Min),(.int .i64 c_1.Max),(.int .i64 c_1.Low),(.int .i64 c_1.High),(.str c_1.Ref),(.bool c_1.Strong)])) rfl trivial rfl rfl)<|s_mov (.int .i64 0) rfl<|dk<|awp_seq<|w_blk<|awp_seq<|?_
 obtain ⟨s5_7,hb1,hf⟩:=ob hf
 refine awp_cut ([(1,(.lst 3 (d_2.map encGAtom))),(2,(.ptr 0 0 0)),(5,(.bool s5_7))],[.box 8 (.agg [(.str c_1.Name),(.int .i64 c_1.Kind),(.int .i64 c_1.Min),(.int .i64 c_1.Max),(.int .i64 c_1.Low),(.int .i64 c_1.High),(.str c_1.Ref),(.bool c_1.Strong)])]) ?_ ?_
 ·refine w_reg<|s_mov (.lst 3 (d_2.map encGAtom)) rfl<|s_dof (o_len (enc:=encGAtom) rfl) fun hl9 => s_q (.bool (decide ((d_2.length:Int) > 0))) rfl rfl rfl<|s_mov (.bool (decide ((d_2.length:Int) > 0))) rfl<|?_
  rcases oi hb1 with ⟨c10,hb1⟩ | ⟨c10,hb1⟩
  ·refine s_lit (s:=9) (b:=true) rfl c10<|s_on rfl<|s_mov (.lst 3 (d_2.map encGAtom)) rfl<|s_on rfl<|?_
   obtain ⟨x_11,ex12,hb1⟩:=ob hb1
   refine s_do (o_iaddr (enc:=encGAtom) rfl rfl (idx0 ex12) (idx1 ex12))<|s_on rfl<|s_q (.iptr (encGAtom x_11) 0) rfl trivial rfl<|s_on rfl<|s_q (.int .i64 x_11.Kind) rfl nle rfl<|s_on rfl<|s_q (.ptr 0 0 1) rfl trivial rfl<|s_on rfl<|s_q (.int .i64 c_1.Kind) rfl nle rfl<|s_on rfl<|s_q (.bool (x_11.Kind != c_1.Kind)) rfl rfl rfl<|s_q (.bool (x_11.Kind != c_1.Kind)) rfl trivial rfl<|s_mov (.bool (x_11.Kind != c_1.Kind)) rfl<|w_done<|?_;obtain rfl:=os hb1;exact ⟨[],[0],_,_,rfl,rfl,⟨.refl _,⟨.refl _,⟨.refl _,trivial⟩⟩⟩,(.refl _)⟩
  ·refine s_lit (s:=9) (b:=false) rfl (bf c10)<|s_off rfl rfl<|s_off rfl rfl<|s_off rfl rfl<|s_off rfl rfl<|s_off rfl rfl<|s_off rfl rfl<|s_off rfl rfl<|s_q (.bool false) rfl trivial rfl<|s_mov (.bool false) rfl<|w_done<|?_;obtain rfl:=os hb1;exact ⟨[],[0],_,_,rfl,rfl,⟨.refl _,⟨.refl _,⟨.refl _,trivial⟩⟩⟩,(.refl _)⟩
 ·rcases oi hf with ⟨c13,hf⟩ | ⟨c13,hf⟩
  ·refine w_condt rfl c13<|sr<|s_mov (.int .i64 9) rfl<|dk<|w_ret<|?_;obtain rfl:=os hf;exact r_flat ⟨trivial,trivial⟩ rfl (.refl _)
  ·refine w_condf rfl (bf c13)<|sr<|?_
   obtain ⟨r_15,er16,hf⟩:=ob hf
   refine s_mov (.lst 3 (d_2.map encGAtom)) rfl<|s_dof (o_len (enc:=encGAtom) rfl) fun hl14 => s_q (.ptr 0 0 2) rfl trivial rfl<|s_q (.int .i64 c_1.Min) rfl nle rfl<|s_q (.ptr 0 0 3) rfl trivial rfl<|s_q (.int .i64 c_1.Max) rfl nle rfl<|s_do (o_call (w_impl_within _ _ _ _ er16) rfl (.refl _) rfl)<|s_q (.bool (!r_15)) rfl trivial rfl<|s_mov (.bool (!r_15)) rfl<|dk<|?_
   rcases oi hf with ⟨c17,hf⟩ | ⟨c17,hf⟩
   ·refine w_condt rfl c17<|sr<|s_mov (.int .i64 6) rfl<|dk<|w_ret<|?_;obtain rfl:=os hf;exact r_flat ⟨trivial,trivial⟩ rfl (.refl _)
   ·refine w_condf rfl (bf c17)<|awp_seq<|?_
    obtain ⟨s27_21,hb1,hf⟩:=ob hf
    refine awp_cut ([(27,(.bool s27_21))],[]) ?_ ?_
    ·refine w_reg ?_
     rcases oi hb1 with ⟨c23,hb1⟩ | ⟨c23,hb1⟩
     ·obtain ⟨r_24,er25,hb1⟩:=ob hb1
      refine s_q (.ptr 0 0 1) rfl trivial rfl<|s_q (.int .i64 c_1.Kind) rfl nle rfl<|s_q (.bool (c_1.Kind == 1)) rfl rfl rfl<|s_mov (.bool (c_1.Kind == 1)) rfl<|s_lit (s:=31) (b:=true) rfl c23<|s_on rfl<|s_mov (.lst 3 (d_2.map encGAtom)) rfl<|s_on rfl<|s_q (.fn 99 [(.ptr 0 0 0)]) rfl trivial rfl<|s_on rfl<|?_;refine s_do (o_call (w_slices_ContainsFunc_impl_Atom_impl_Atom _ _ _ er25 99 [(.iptr (encGColumn c_1) 0)] (by kernel_rfl) (fun _ _ => rfl) (fun _ => rfl) (fun a0 r h => w_impl_Column_fits_1 a0 c_1 r h)) rfl (.refl _) rfl) ?_;refine s_q (.bool r_24) rfl trivial rfl<|s_mov (.bool r_24) rfl<|w_done<|?_;obtain rfl:=os hb1;exact ⟨[],[],_,_,rfl,rfl,⟨.refl _,trivial⟩,(.refl _)⟩
     ·refine s_q (.ptr 0 0 1) rfl trivial rfl<|s_q (.int .i64 c_1.Kind) rfl nle rfl<|s_q (.bool (c_1.Kind == 1)) rfl rfl rfl<|s_mov (.bool (c_1.Kind == 1)) rfl<|s_lit (s:=31) (b:=false) rfl (bf c23)<|s_off rfl rfl<|s_off rfl rfl<|s_off rfl rfl<|s_q (.bool false) rfl trivial rfl<|s_mov (.bool false) rfl<|w_done<|?_;obtain rfl:=os hb1;exact ⟨[],[],_,_,rfl,rfl,⟨.refl _,trivial⟩,(.refl _)⟩
    ·rcases oi hf with ⟨c26,hf⟩ | ⟨c26,hf⟩
     ·refine w_condt rfl c26<|sr<|s_mov (.int .i64 4) rfl<|dk<|w_ret<|?_;obtain rfl:=os hf;exact r_flat ⟨trivial,trivial⟩ rfl (.refl _)
     ·refine w_condf rfl (bf c26)<|w_skip<|k_blk<|k_seq<|sr<|s_mov (.int .i64 0) rfl<|dk<|w_ret<|?_;obtain rfl:=os hf;exact r_flat ⟨trivial,trivial⟩ rfl (.refl _)

/- impl.cellsOK -/
def c49:ACode :=
 (.seq (.reg (tq 2 (.box 4 (.t 0)) (tq 3 (.box 2 (.t 1)) (tm 4 (.c (.bool false)) .done))))
 (.seq (.seq (.reg (tq 7 (.faddr 1 (.t 3)) (tq 8 (.load 1 false (.t 7)) (tq 9 (.len (.t 8)) (tq 10 (.faddr 1 (.t 2)) (tq 11 (.load 1 false (.t 10)) (tq 12 (.len (.t 11)) (tq 13 (.bin .neq (.t 9) (.t 12)) .done))))))))
 (.cond (.t 13) (.seq (.reg (tm 4 (.c (.bool false)) .done))
 .ret)
 .skip))
 (.seq (.seq (.reg (tq 14 (.faddr 1 (.t 3)) (tq 15 (.load 1 false (.t 14)) (tq 16 (.len (.t 15)) (tm 17 (.c (.int .i64 0)) .done)))))
 (.block 0 (.loop (.seq (.reg (tq 18 (.bin .lss (.t 17) (.t 16)) .done))
 (.seq (.cond (.t 18) .skip
 (.exit 0))
 (.seq (.block 1 (.seq (.reg (tm 19 (.t 17) (tq 20 (.iaddr 1 (.t 15) (.t 17)) (tq 21 (.load 1 false (.t 20)) (tm 5 (.t 19) (tm 6 (.t 21) .done))))))
 (.seq (.reg (tm 22 (.t 6) (tq 23 (.call 11 [(.t 22)]) (tq 24 (.not (.t 23)) (tm 25 (.t 24) (tg 26 25 false (.faddr 1 (.t 2)) (tg 27 25 false (.load 1 false (.t 26)) (tg 28 25 false (.mov (.t 5)) (tg 29 25 false (.iaddr 8 (.t 27) (.t 28)) (tg 30 25 false (.load 8 true (.t 29)) (tg 31 25 false (.mov (.t 6)) (tg 32 25 false (.call 60 [(.t 30),(.t 31)]) (tg 33 25 false (.bin .neq (.t 32) (.c (.int .i64 0))) (tq 34 (.pick (.t 25) (.c (.bool true)) (.t 33)) .done))))))))))))))
 (.cut (.cond (.t 34) (.seq (.reg (tm 4 (.c (.bool false)) .done))
 .ret)
 .skip)))))
 (.reg (tq 35 (.bin .add (.t 17) (.c (.int .i64 1))) (tm 17 (.t 35) .done)))))))))
 (.cut (.seq (.reg (tm 4 (.c (.bool true)) .done))
 .ret)))))
theorem fc49:fcomp Try.prog Try.f49 = some (c49.erase,[.mov (.t 4)],36):=by kernel_rfl
def impl_cellsOK_L1 (t_1:GTable):List (List GAtom) → Nat → Option (Fl Bool Unit)
  | [],s17_48 =>
    some (.go ())
  | x_76 :: xs,s17_48 =>
    (((impl_DatumOK x_76).bind fun r_86 =>
    if (!r_86) then
    some true
    else
    (idx t_1.Columns (s17_48:Int)).bind fun x_89 =>
    (impl_Column_fits x_89 x_76).bind fun r_91 =>
    some (r_91 != 0):Option Bool)).bind fun s34_84 =>
    if s34_84 then
    some (.ret false)
    else
    impl_cellsOK_L1 t_1 xs (s17_48 + 1)

def impl_cellsOK (t_1:GTable) (r_2:GRow):Option Bool :=
    if ((r_2.Cells.length:Int) != (t_1.Columns.length:Int)) then
    some false
    else
    (impl_cellsOK_L1 t_1 r_2.Cells 0).bind fun q => (match q with
    | .ret r => some r
    | .go _ =>
    some true)
theorem w_impl_cellsOK (t_1:GTable) (r_2:GRow) (r:Bool) (hf:impl_cellsOK t_1 r_2 = some r):CallOK Try.prog 49 .flat [(encGTable t_1),(encGRow r_2)] (.bool r):=by
 refine CallOK.of_awp mixed Try.func49 fc49 nle ?_;rw [argT_eq];unfold impl_cellsOK at hf;unfold c49;refine (show awp Try.prog false 0 _ (ofL [(0,(encGTable t_1)),(1,(encGRow r_2))]) [] _ from ?_);refine sr<|s_do (o_box (j:=0) (c:=(.agg [(.str t_1.Name),(.lst 8 (t_1.Columns.map encGColumn)),(.lst 1 (t_1.Unique.map encI)),(.bool t_1.Root)])) rfl trivial rfl rfl)<|s_do (o_box (j:=1) (c:=(.agg [(.int .i64 r_2.Id),(.lst 1 (r_2.Cells.map (encL 3 encGAtom)))])) rfl trivial rfl rfl)<|s_mov (.bool false) rfl<|dk<|awp_seq<|sr<|s_q (.ptr 1 0 1) rfl trivial rfl<|s_q (.lst 1 (r_2.Cells.map (encL 3 encGAtom))) rfl nle rfl<|s_dof (o_len (enc:=(encL 3 encGAtom)) rfl) fun hl3 => ?_
 refine s_q (.ptr 0 0 1) rfl trivial rfl<|s_q (.lst 8 (t_1.Columns.map encGColumn)) rfl nle rfl<|s_dof (o_len (enc:=encGColumn) rfl) fun hl4 => s_q (.bool ((r_2.Cells.length:Int) != (t_1.Columns.length:Int))) rfl rfl rfl<|dk<|?_
 rcases oi hf with ⟨c5,hf⟩ | ⟨c5,hf⟩
 ·refine w_condt rfl c5<|sr<|s_mov (.bool false) rfl<|dk<|w_ret<|?_;obtain rfl:=os hf;exact r_flat ⟨trivial,trivial⟩ rfl (.refl _)
 ·refine w_condf rfl (bf c5)<|w_skip<|k_seq<|awp_seq<|sr<|s_q (.ptr 1 0 1) rfl trivial rfl<|s_q (.lst 1 (r_2.Cells.map (encL 3 encGAtom))) rfl nle rfl<|s_dof (o_len (enc:=(encL 3 encGAtom)) rfl) fun hl6 => s_mov (.int .i64 0) rfl<|dk<|?_
  obtain ⟨p69,hb1,hf⟩:=ob hf
  refine awp_cutx (X:={q:Unit // p69 = .go q}) (fun q => ([],[])) ?_ ?_
  ·refine awp_loop (X:={q:Nat // impl_cellsOK_L1 t_1 (r_2.Cells.drop q) q = some p69}) (fun q => ([(2,(.ptr 0 0 0)),(15,(.lst 1 (r_2.Cells.map (encL 3 encGAtom)))),(16,(.int .i64 (r_2.Cells.length:Int))),(17,(.int .i64 (q.1:Int)))],[.box 4 (.agg [(.str t_1.Name),(.lst 8 (t_1.Columns.map encGColumn)),(.lst 1 (t_1.Unique.map encI)),(.bool t_1.Root)])])) (fun q => r_2.Cells.length - q.1) ⟨0,hb1⟩ ⟨[],[0],_,_,rfl,rfl,⟨.refl _,⟨.refl _,⟨.refl _,⟨.refl _,trivial⟩⟩⟩⟩,(.refl _)⟩ ?_
   rintro ⟨s17_48,hc1⟩
   have hc1:impl_cellsOK_L1 t_1 (r_2.Cells.drop s17_48) s17_48 = some p69:=hc1
   refine (show awp Try.prog false 0 _ (ofL [(2,(.ptr 0 0 0)),(15,(.lst 1 (r_2.Cells.map (encL 3 encGAtom)))),(16,(.int .i64 (r_2.Cells.length:Int))),(17,(.int .i64 (s17_48:Int)))]) [.box 4 (.agg [(.str t_1.Name),(.lst 8 (t_1.Columns.map encGColumn)),(.lst 1 (t_1.Unique.map encI)),(.bool t_1.Root)])] _ from ?_)
   rcases dropc r_2.Cells s17_48 with ⟨hie72,hd75⟩ | ⟨hlt70,x_76,hx71,hd75⟩
   ·rw [hd75,impl_cellsOK_L1.eq_1] at hc1
    have hq74:=dlf hie72
    refine sr<|s_q (.bool (decide ((s17_48:Int) < (r_2.Cells.length:Int)))) rfl rfl rfl<|dk<|awp_seq<|w_condf rfl hq74<|w_exit<|k_seqx<|k_loopx<|k_blkx<|?_;obtain rfl:=os hc1;exact k_cutn ⟨_,rfl⟩ ⟨[],[],_,_,rfl,rfl,trivial,(.refl _)⟩
   ·rw [hd75,impl_cellsOK_L1.eq_2] at hc1
    have hq74:=dlt hlt70
    refine sr<|s_q (.bool (decide ((s17_48:Int) < (r_2.Cells.length:Int)))) rfl rfl rfl<|dk<|awp_seq<|w_condt rfl hq74<|w_skip<|k_seq<|awp_seq<|w_blk<|sr<|s_mov (.int .i64 (s17_48:Int)) rfl<|s_do (o_iaddrn (enc:=(encL 3 encGAtom)) rfl rfl hx71)<|s_q (.lst 3 (x_76.map encGAtom)) rfl ⟨rfl,rfl⟩ rfl<|s_mov (.int .i64 (s17_48:Int)) rfl<|s_mov (.lst 3 (x_76.map encGAtom)) rfl<|dk<|awp_seq<|?_
    obtain ⟨s34_84,hb2,hc1⟩:=ob hc1
    refine awp_cut ([(2,(.ptr 0 0 0)),(15,(.lst 1 (r_2.Cells.map (encL 3 encGAtom)))),(16,(.int .i64 (r_2.Cells.length:Int))),(17,(.int .i64 (s17_48:Int))),(34,(.bool s34_84))],[.box 4 (.agg [(.str t_1.Name),(.lst 8 (t_1.Columns.map encGColumn)),(.lst 1 (t_1.Unique.map encI)),(.bool t_1.Root)])]) ?_ ?_
    ·refine w_reg<|s_mov (.lst 3 (x_76.map encGAtom)) rfl<|?_
     obtain ⟨r_86,er87,hb2⟩:=ob hb2
     refine s_do (o_call (w_impl_DatumOK _ _ er87) rfl (.refl _) rfl)<|s_q (.bool (!r_86)) rfl trivial rfl<|s_mov (.bool (!r_86)) rfl<|?_
     rcases oi hb2 with ⟨c88,hb2⟩ | ⟨c88,hb2⟩
     ·refine s_lit (s:=25) (b:=true) rfl c88<|s_off rfl rfl<|s_off rfl rfl<|s_off rfl rfl<|s_off rfl rfl<|s_off rfl rfl<|s_off rfl rfl<|s_off rfl rfl<|s_off rfl rfl<|s_q (.bool true) rfl trivial rfl<|w_done<|?_;obtain rfl:=os hb2;exact ⟨[],[0],_,_,rfl,rfl,⟨.refl _,⟨.refl _,⟨.refl _,⟨.refl _,⟨.refl _,trivial⟩⟩⟩⟩⟩,(.refl _)⟩
     ·refine s_lit (s:=25) (b:=false) rfl (bf c88)<|s_on rfl<|s_q (.ptr 0 0 1) rfl trivial rfl<|s_on rfl<|s_q (.lst 8 (t_1.Columns.map encGColumn)) rfl nle rfl<|s_on rfl<|s_mov (.int .i64 (s17_48:Int)) rfl<|s_on rfl<|?_
      obtain ⟨x_89,ex90,hb2⟩:=ob hb2
      refine s_do (o_iaddr (enc:=encGColumn) rfl rfl (idx0 ex90) (idx1 ex90))<|s_on rfl<|s_q (encGColumn x_89) rfl nle rfl<|s_on rfl<|s_mov (.lst 3 (x_76.map encGAtom)) rfl<|s_on rfl<|?_
      obtain ⟨r_91,er92,hb2⟩:=ob hb2
      refine s_do (o_call (w_impl_Column_fits _ _ _ er92) rfl (.refl _) rfl)<|s_on rfl<|s_q (.bool (r_91 != 0)) rfl rfl rfl<|s_q (.bool (r_91 != 0)) rfl trivial rfl<|w_done<|?_;obtain rfl:=os hb2;exact ⟨[],[0],_,_,rfl,rfl,⟨.refl _,⟨.refl _,⟨.refl _,⟨.refl _,⟨.refl _,trivial⟩⟩⟩⟩⟩,(.refl _)⟩
    ·rcases oi hc1 with ⟨c93,hc1⟩ | ⟨c93,hc1⟩
     ·refine w_condt rfl c93<|sr<|s_mov (.bool false) rfl<|dk<|w_ret<|?_;obtain rfl:=os hc1;obtain rfl:=os hf;exact r_flat ⟨trivial,trivial⟩ rfl (.refl _)
     ·refine w_condf rfl (bf c93)<|w_skip<|k_blk<|k_seq<|w_reg<|s_q (.int .i64 (w64 ((s17_48:Int) + 1))) rfl rfl rfl<|s_mov (.int .i64 (w64 ((s17_48:Int) + 1))) rfl<|w_done<|?_;exact k_loopn ⟨(s17_48 + 1),hc1⟩ (mul hlt70) ⟨[],[0],_,_,rfl,rfl,⟨.refl _,⟨.refl _,⟨.refl _,⟨.of_eq (congrArg (AV.int _) (w64_incr hlt70 hl6)),trivial⟩⟩⟩⟩,(.refl _)⟩
  ·rintro ⟨_,rfl⟩
   refine sr<|s_mov (.bool true) rfl<|dk<|w_ret<|?_;obtain rfl:=os hf;exact r_flat ⟨trivial,trivial⟩ rfl (.refl _)

/- impl.RowOK -/
def c20:ACode :=
 (.seq (.reg (tq 2 (.box 4 (.t 0)) (tq 3 (.box 2 (.t 1)) (tm 4 (.c (.bool false)) .done))))
 (.seq (.reg (tq 5 (.load 4 true (.t 2)) (tq 6 (.call 35 [(.t 5)]) (tm 7 (.t 6) (tg 8 7 true (.faddr 0 (.t 3)) (tg 9 7 true (.load 1 false (.t 8)) (tg 10 7 true (.call 36 [(.t 9)]) (tq 11 (.pick (.t 7) (.t 10) (.c (.bool false))) (tm 12 (.t 11) (tg 13 12 true (.load 4 true (.t 2)) (tg 14 12 true (.load 2 true (.t 3)) (tg 15 12 true (.call 49 [(.t 13),(.t 14)]) (tq 16 (.pick (.t 12) (.t 15) (.c (.bool false))) (tm 4 (.t 16) .done))))))))))))))
 .ret))
theorem fc20:fcomp Try.prog Try.f20 = some (c20.erase,[.mov (.t 4)],17):=by kernel_rfl
def impl_RowOK (t_1:GTable) (r_2:GRow):Option Bool :=
    (impl_isTable t_1).bind fun r_3 =>
    if r_3 then
    (impl_isId r_2.Id).bind fun r_6 =>
    if r_6 then
    (impl_cellsOK t_1 r_2).bind fun r_9 =>
    some r_9
    else
    some false
    else
    some false
theorem w_impl_RowOK (t_1:GTable) (r_2:GRow) (r:Bool) (hf:impl_RowOK t_1 r_2 = some r):CallOK Try.prog 20 .flat [(encGTable t_1),(encGRow r_2)] (.bool r):=by
 refine CallOK.of_awp mixed Try.func20 fc20 nle ?_;rw [argT_eq];unfold impl_RowOK at hf;unfold c20;refine (show awp Try.prog false 0 _ (ofL [(0,(encGTable t_1)),(1,(encGRow r_2))]) [] _ from ?_);refine sr<|s_do (o_box (j:=0) (c:=(.agg [(.str t_1.Name),(.lst 8 (t_1.Columns.map encGColumn)),(.lst 1 (t_1.Unique.map encI)),(.bool t_1.Root)])) rfl trivial rfl rfl)<|s_do (o_box (j:=1) (c:=(.agg [(.int .i64 r_2.Id),(.lst 1 (r_2.Cells.map (encL 3 encGAtom)))])) rfl trivial rfl rfl)<|s_mov (.bool false) rfl<|dk<|sr<|s_q (.agg [(.str t_1.Name),(.lst 8 (t_1.Columns.map encGColumn)),(.lst 1 (t_1.Unique.map encI)),(.bool t_1.Root)]) rfl nle rfl<|?_
 obtain ⟨r_3,er4,hf⟩:=ob hf
 refine s_do (o_call (w_impl_isTable _ _ er4) rfl (.refl _) rfl)<|s_mov (.bool r_3) rfl<|?_
 rcases oi hf with ⟨c5,hf⟩ | ⟨c5,hf⟩
 ·refine s_lit (s:=7) (b:=true) rfl c5<|s_on rfl<|s_q (.ptr 1 0 0) rfl trivial rfl<|s_on rfl<|s_q (.int .i64 r_2.Id) rfl nle rfl<|s_on rfl<|?_
  obtain ⟨r_6,er7,hf⟩:=ob hf
  refine s_do (o_call (w_impl_isId _ _ er7) rfl (.refl _) rfl)<|s_q (.bool r_6) rfl trivial rfl<|s_mov (.bool r_6) rfl<|?_
  rcases oi hf with ⟨c8,hf⟩ | ⟨c8,hf⟩
  ·refine s_lit (s:=12) (b:=true) rfl c8<|s_on rfl<|s_q (.agg [(.str t_1.Name),(.lst 8 (t_1.Columns.map encGColumn)),(.lst 1 (t_1.Unique.map encI)),(.bool t_1.Root)]) rfl nle rfl<|s_on rfl<|s_q (.agg [(.int .i64 r_2.Id),(.lst 1 (r_2.Cells.map (encL 3 encGAtom)))]) rfl nle rfl<|s_on rfl<|?_
   obtain ⟨r_9,er10,hf⟩:=ob hf
   refine s_do (o_call (w_impl_cellsOK _ _ _ er10) rfl (.refl _) rfl)<|s_q (.bool r_9) rfl trivial rfl<|s_mov (.bool r_9) rfl<|dk<|w_ret<|?_;obtain rfl:=os hf;exact r_flat ⟨trivial,trivial⟩ rfl (.refl _)
  ·refine s_lit (s:=12) (b:=false) rfl (bf c8)<|s_off rfl rfl<|s_off rfl rfl<|s_off rfl rfl<|s_q (.bool false) rfl trivial rfl<|s_mov (.bool false) rfl<|dk<|w_ret<|?_;obtain rfl:=os hf;exact r_flat ⟨trivial,trivial⟩ rfl (.refl _)
 ·refine s_lit (s:=7) (b:=false) rfl (bf c5)<|s_off rfl rfl<|s_off rfl rfl<|s_off rfl rfl<|s_q (.bool false) rfl trivial rfl<|s_mov (.bool false) rfl<|s_off rfl rfl<|s_off rfl rfl<|s_off rfl rfl<|s_q (.bool false) rfl trivial rfl<|s_mov (.bool false) rfl<|dk<|w_ret<|?_;obtain rfl:=os hf;exact r_flat ⟨trivial,trivial⟩ rfl (.refl _)

/- impl.setsCode$1 -/
def c81:ACode :=
 (.seq (.reg (tq 2 (.box 3 (.t 0)) (tm 3 (.c (.bool false)) .done)))
 (.seq (.reg (tq 4 (.faddr 0 (.t 2)) (tq 5 (.load 1 false (.t 4)) (tq 6 (.faddr 0 (.t 1)) (tq 7 (.load 1 false (.t 6)) (tq 8 (.bin .eql (.t 5) (.t 7)) (tm 3 (.t 8) .done)))))))
 .ret))
theorem fc81:fcomp Try.prog Try.f81 = some (c81.erase,[.mov (.t 3)],9):=by kernel_rfl
def impl_setsCode_1 (own_1:GSet) (cap_2:GSet):Option Bool :=
    some (own_1.Column == cap_2.Column)
theorem w_impl_setsCode_1 (own_1:GSet) (cap_2:GSet) (r:Bool) (hf:impl_setsCode_1 own_1 cap_2 = some r):CallOK Try.prog 81 .flat [(encGSet own_1),(.iptr (encGSet cap_2) 0)] (.bool r):=by
  refine CallOK.of_awp mixed Try.func81 fc81 nle ?_
  rw [argT_eq]
  unfold impl_setsCode_1 at hf
  unfold c81
  refine (show awp Try.prog false 0 _ (ofL [(0,(encGSet own_1)),(1,(.iptr (encGSet cap_2) 0))]) [] _ from ?_)
  refine awp_seq ?_
  refine w_reg ?_
  refine s_do (o_box (j:=0) (c:=(.agg [(.str own_1.Column),(.lst 3 (own_1.Value.map encGAtom)),(.lst 1 (own_1.Names.map AV.str))])) rfl trivial rfl rfl) ?_
  refine s_do (o_mov (.bool false) rfl) ?_
  refine w_done ?_
  refine k_seq ?_
  refine awp_seq ?_
  refine w_reg ?_
  refine s_do (o_q (.ptr 0 0 0) rfl trivial rfl) ?_
  refine s_do (o_q (.str own_1.Column) rfl nle rfl) ?_
  refine s_do (o_q (.iptr (encGSet cap_2) 0) rfl trivial rfl) ?_
  refine s_do (o_q (.str cap_2.Column) rfl nle rfl) ?_
  refine s_do (o_q (.bool (own_1.Column == cap_2.Column)) rfl trivial rfl) ?_
  refine s_do (o_mov (.bool (own_1.Column == cap_2.Column)) rfl) ?_
  refine w_done ?_
  refine k_seq ?_
  refine w_ret ?_
  obtain rfl:=os hf
  exact r_flat ⟨trivial,trivial⟩ rfl (.refl _)

/- impl.setsCode -/
def c43:ACode :=
 (.seq (.reg (tq 2 (.box 4 (.t 0)) (tm 4 (.c (.int .i64 0)) .done)))
 (.seq (.seq (.reg (tm 8 (.t 1) (tq 9 (.len (.t 8)) (tm 10 (.c (.int .i64 0)) .done))))
 (.block 0 (.loop (.seq (.reg (tq 11 (.bin .lss (.t 10) (.t 9)) .done))
 (.seq (.cond (.t 11) .skip
 (.exit 0))
 (.seq (.block 1 (.seq (.reg (tm 12 (.t 10) (tq 13 (.iaddr 3 (.t 8) (.t 10)) (tq 14 (.load 3 true (.t 13)) (tq 6 (.box 3 (.c (.agg [(.str []),.nil,.nil]))) (tm 5 (.t 12) (.q ⟨none,none,.store 3 (.t 6) (.t 14)⟩
 .done)))))))
 (.seq (.reg (tq 15 (.load 4 true (.t 2)) (tq 16 (.faddr 0 (.t 6)) (tq 17 (.load 1 false (.t 16)) (tq 18 (.call 75 [(.t 15),(.t 17)]) (tm 7 (.t 18) .done))))))
 (.block 2 (.seq (.reg (tm 20 (.t 7) (tq 21 (.bin .lss (.t 20) (.c (.int .i64 0))) (tm 19 (.t 21) .done))))
 (.cond (.t 19) (.seq (.reg (tm 4 (.c (.int .i64 11)) .done))
 .ret)
 (.seq (.reg (tm 23 (.t 1) (tm 24 (.t 5) (tq 25 (.slice 3 (.t 23) none (some (.t 24))) (tq 26 (.mkfn 81 [(.t 6)]) (tq 27 (.call 39 [(.t 25),(.t 26)]) (tm 22 (.t 27) .done)))))))
 (.cond (.t 22) (.seq (.reg (tm 4 (.c (.int .i64 8)) .done))
 .ret)
 (.seq (.reg (tq 29 (.faddr 1 (.t 6)) (tq 30 (.load 1 false (.t 29)) (tq 31 (.len (.t 30)) (tq 32 (.bin .gtr (.t 31) (.c (.int .i64 0))) (tm 33 (.t 32) (tg 34 33 true (.faddr 1 (.t 6)) (tg 35 33 true (.load 1 false (.t 34)) (tg 36 33 true (.iaddr 3 (.t 35) (.c (.int .i64 0))) (tg 37 33 true (.faddr 0 (.t 36)) (tg 38 33 true (.load 1 false (.t 37)) (tg 39 33 true (.faddr 1 (.t 2)) (tg 40 33 true (.load 1 false (.t 39)) (tg 41 33 true (.mov (.t 7)) (tg 42 33 true (.iaddr 8 (.t 40) (.t 41)) (tg 43 33 true (.faddr 1 (.t 42)) (tg 44 33 true (.load 1 false (.t 43)) (tg 45 33 true (.bin .neq (.t 38) (.t 44)) (tq 46 (.pick (.t 33) (.t 45) (.c (.bool false))) (tm 47 (.t 46) (tg 48 47 false (.faddr 2 (.t 6)) (tg 49 47 false (.load 1 false (.t 48)) (tg 50 47 false (.len (.t 49)) (tg 51 47 false (.bin .gtr (.t 50) (.c (.int .i64 0))) (tg 52 47 false (.mov (.t 51)) (tg 53 52 true (.faddr 1 (.t 2)) (tg 54 52 true (.load 1 false (.t 53)) (tg 55 52 true (.mov (.t 7)) (tg 56 52 true (.iaddr 8 (.t 54) (.t 55)) (tg 57 52 true (.faddr 1 (.t 56)) (tg 58 52 true (.load 1 false (.t 57)) (tg 59 52 true (.bin .neq (.t 58) (.c (.int .i64 4))) (tg 60 47 false (.pick (.t 52) (.t 59) (.c (.bool false))) (tq 61 (.pick (.t 47) (.c (.bool true)) (.t 60)) (tm 28 (.t 61) .done)))))))))))))))))))))))))))))))))))
 (.cut (.cond (.t 28) (.seq (.reg (tm 4 (.c (.int .i64 9)) .done))
 .ret)
 .skip)))))))))))
 (.reg (tq 62 (.bin .add (.t 10) (.c (.int .i64 1))) (tm 10 (.t 62) .done)))))))))
 (.cut (.seq (.reg (tm 4 (.c (.int .i64 0)) .done))
 .ret))))
theorem fc43:fcomp Try.prog Try.f43 = some (c43.erase,[.mov (.t 4)],63):=by kernel_rfl
def impl_setsCode_L1 (t_1:GTable) (list_2:(List GSet)):List GSet → Nat → Option (Fl Int Unit)
  | [],s10_95 =>
    some (.go ())
  | x_148 :: xs,s10_95 =>
    (impl_Table_columnAt t_1 x_148.Column).bind fun r_149 =>
    if (decide (r_149 < 0)) then
    some (.ret 11)
    else
    if (0:Int) ≤ (s10_95:Int) ∧ (s10_95:Int) ≤ (list_2.length:Int) then
    (slices_ContainsFunc_impl_Set_impl_Set (list_2.take s10_95) (fun a0 => impl_setsCode_1 a0 x_148)).bind fun r_153 =>
    if r_153 then
    some (.ret 8)
    else
    ((if (decide ((x_148.Value.length:Int) > 0)) then
    (idx x_148.Value 0).bind fun x_176 =>
    (idx t_1.Columns r_149).bind fun x_178 =>
    if (x_176.Kind != x_178.Kind) then
    some true
    else
    if (decide ((x_148.Names.length:Int) > 0)) then
    (idx t_1.Columns r_149).bind fun x_184 =>
    some (x_184.Kind != 4)
    else
    some false
    else
    if (decide ((x_148.Names.length:Int) > 0)) then
    (idx t_1.Columns r_149).bind fun x_188 =>
    some (x_188.Kind != 4)
    else
    some false:Option Bool)).bind fun s28_172 =>
    if s28_172 then
    some (.ret 9)
    else
    impl_setsCode_L1 t_1 list_2 xs (s10_95 + 1)
    else none

def impl_setsCode (t_1:GTable) (list_2:(List GSet)):Option Int :=
    (impl_setsCode_L1 t_1 list_2 list_2 0).bind fun q => (match q with
    | .ret r => some r
    | .go _ =>
    some 0)
theorem w_impl_setsCode (t_1:GTable) (list_2:(List GSet)) (r:Int) (hf:impl_setsCode t_1 list_2 = some r):CallOK Try.prog 43 .flat [(encGTable t_1),(.lst 3 (list_2.map encGSet))] (.int .i64 r):=by
 refine CallOK.of_awp mixed Try.func43 fc43 nle ?_;rw [argT_eq];unfold impl_setsCode at hf;unfold c43;refine (show awp Try.prog false 0 _ (ofL [(0,(encGTable t_1)),(1,(.lst 3 (list_2.map encGSet)))]) [] _ from ?_);refine sr<|s_do (o_box (j:=0) (c:=(.agg [(.str t_1.Name),(.lst 8 (t_1.Columns.map encGColumn)),(.lst 1 (t_1.Unique.map encI)),(.bool t_1.Root)])) rfl trivial rfl rfl)<|s_mov (.int .i64 0) rfl<|dk<|awp_seq<|sr<|s_mov (.lst 3 (list_2.map encGSet)) rfl<|s_dof (o_len (enc:=encGSet) rfl) fun hl3 => s_mov (.int .i64 0) rfl<|dk<|?_
 obtain ⟨p141,hb1,hf⟩:=ob hf
 refine awp_cutx (X:={q:Unit // p141 = .go q}) (fun q => ([],[])) ?_ ?_
 ·refine awp_loop (X:={q:Nat // impl_setsCode_L1 t_1 list_2 (list_2.drop q) q = some p141}) (fun q => ([(1,(.lst 3 (list_2.map encGSet))),(2,(.ptr 0 0 0)),(8,(.lst 3 (list_2.map encGSet))),(9,(.int .i64 (list_2.length:Int))),(10,(.int .i64 (q.1:Int)))],[.box 4 (.agg [(.str t_1.Name),(.lst 8 (t_1.Columns.map encGColumn)),(.lst 1 (t_1.Unique.map encI)),(.bool t_1.Root)])])) (fun q => list_2.length - q.1) ⟨0,hb1⟩ ⟨[],[0],_,_,rfl,rfl,⟨.refl _,⟨.refl _,⟨.refl _,⟨.refl _,⟨.refl _,trivial⟩⟩⟩⟩⟩,(.refl _)⟩ ?_
  rintro ⟨s10_95,hc1⟩
  have hc1:impl_setsCode_L1 t_1 list_2 (list_2.drop s10_95) s10_95 = some p141:=hc1
  refine (show awp Try.prog false 0 _ (ofL [(1,(.lst 3 (list_2.map encGSet))),(2,(.ptr 0 0 0)),(8,(.lst 3 (list_2.map encGSet))),(9,(.int .i64 (list_2.length:Int))),(10,(.int .i64 (s10_95:Int)))]) [.box 4 (.agg [(.str t_1.Name),(.lst 8 (t_1.Columns.map encGColumn)),(.lst 1 (t_1.Unique.map encI)),(.bool t_1.Root)])] _ from ?_)
  rcases dropc list_2 s10_95 with ⟨hie144,hd147⟩ | ⟨hlt142,x_148,hx143,hd147⟩
  ·rw [hd147,impl_setsCode_L1.eq_1] at hc1
   have hq146:=dlf hie144
   refine sr<|s_q (.bool (decide ((s10_95:Int) < (list_2.length:Int)))) rfl rfl rfl<|dk<|awp_seq<|w_condf rfl hq146<|w_exit<|k_seqx<|k_loopx<|k_blkx<|?_;obtain rfl:=os hc1;exact k_cutn ⟨_,rfl⟩ ⟨[],[],_,_,rfl,rfl,trivial,(.refl _)⟩
  ·rw [hd147,impl_setsCode_L1.eq_2] at hc1
   have hq146:=dlt hlt142
   refine sr<|s_q (.bool (decide ((s10_95:Int) < (list_2.length:Int)))) rfl rfl rfl<|dk<|awp_seq<|w_condt rfl hq146<|w_skip<|k_seq<|awp_seq<|w_blk<|sr<|s_mov (.int .i64 (s10_95:Int)) rfl<|s_do (o_iaddrn (enc:=encGSet) rfl rfl hx143)<|s_q (encGSet x_148) rfl nle rfl<|s_do (o_box (j:=1) (c:=(.agg [(.str []),.nil,.nil])) rfl trivial rfl rfl)<|s_mov (.int .i64 (s10_95:Int)) rfl<|s_do0 (o_storebox (v:=(.agg [(.str x_148.Column),(.lst 3 (x_148.Value.map encGAtom)),(.lst 1 (x_148.Names.map AV.str))])) (y':=(.agg [(.str x_148.Column),(.lst 3 (x_148.Value.map encGAtom)),(.lst 1 (x_148.Names.map AV.str))])) rfl rfl rfl trivial ⟨rfl,nle⟩ ⟨⟨rfl,trivial⟩,⟨⟨rfl,trivial⟩,⟨⟨rfl,trivial⟩,trivial⟩⟩⟩ rfl)<|?_
   refine dk<|sr<|?_
   obtain ⟨r_149,er150,hc1⟩:=ob hc1
   refine s_q (.agg [(.str t_1.Name),(.lst 8 (t_1.Columns.map encGColumn)),(.lst 1 (t_1.Unique.map encI)),(.bool t_1.Root)]) rfl nle rfl<|s_q (.ptr 1 0 0) rfl trivial rfl<|s_q (.str x_148.Column) rfl nle rfl<|s_do (o_call (w_impl_Table_columnAt _ _ _ er150) rfl (.refl _) rfl)<|s_mov (.int .i64 r_149) rfl<|dk<|w_blk<|sr<|s_mov (.int .i64 r_149) rfl<|s_q (.bool (decide (r_149 < 0))) rfl rfl rfl<|s_mov (.bool (decide (r_149 < 0))) rfl<|dk<|?_
   rcases oi hc1 with ⟨c151,hc1⟩ | ⟨c151,hc1⟩
   ·refine w_condt rfl c151<|sr<|s_mov (.int .i64 11) rfl<|dk<|w_ret<|?_;obtain rfl:=os hc1;obtain rfl:=os hf;exact r_flat ⟨trivial,trivial⟩ rfl (.refl _)
   ·refine w_condf rfl (bf c151)<|sr<|?_
    obtain ⟨g152,hc1⟩:=og hc1
    obtain ⟨r_153,er154,hc1⟩:=ob hc1
    refine s_mov (.lst 3 (list_2.map encGSet)) rfl<|s_mov (.int .i64 (s10_95:Int)) rfl<|s_do (o_slt (enc:=encGSet) rfl rfl g152.1 g152.2)<|s_q (.fn 81 [(.ptr 1 0 0)]) rfl trivial rfl<|?_;refine s_do (o_call (w_slices_ContainsFunc_impl_Set_impl_Set _ _ _ er154 81 [(.iptr (encGSet x_148) 0)] (by kernel_rfl) (fun _ _ => rfl) (fun _ => rfl) (fun a0 r h => w_impl_setsCode_1 a0 x_148 r h)) rfl (.refl _) rfl) ?_;refine s_mov (.bool r_153) rfl<|dk<|?_
    rcases oi hc1 with ⟨c155,hc1⟩ | ⟨c155,hc1⟩
    ·refine w_condt rfl c155<|sr<|s_mov (.int .i64 8) rfl<|dk<|w_ret<|?_;obtain rfl:=os hc1;obtain rfl:=os hf;exact r_flat ⟨trivial,trivial⟩ rfl (.refl _)
    ·refine w_condf rfl (bf c155)<|awp_seq<|?_
     obtain ⟨s28_172,hb2,hc1⟩:=ob hc1
     refine awp_cut ([(1,(.lst 3 (list_2.map encGSet))),(2,(.ptr 0 0 0)),(8,(.lst 3 (list_2.map encGSet))),(9,(.int .i64 (list_2.length:Int))),(10,(.int .i64 (s10_95:Int))),(28,(.bool s28_172))],[.box 4 (.agg [(.str t_1.Name),(.lst 8 (t_1.Columns.map encGColumn)),(.lst 1 (t_1.Unique.map encI)),(.bool t_1.Root)])]) ?_ ?_
     ·refine w_reg<|s_q (.ptr 1 0 1) rfl trivial rfl<|s_q (.lst 3 (x_148.Value.map encGAtom)) rfl nle rfl<|s_dof (o_len (enc:=encGAtom) rfl) fun hl174 => s_q (.bool (decide ((x_148.Value.length:Int) > 0))) rfl rfl rfl<|s_mov (.bool (decide ((x_148.Value.length:Int) > 0))) rfl<|?_
      rcases oi hb2 with ⟨c175,hb2⟩ | ⟨c175,hb2⟩
      ·refine s_lit (s:=33) (b:=true) rfl c175<|s_on rfl<|s_q (.ptr 1 0 1) rfl trivial rfl<|s_on rfl<|s_q (.lst 3 (x_148.Value.map encGAtom)) rfl nle rfl<|s_on rfl<|?_
       obtain ⟨x_176,ex177,hb2⟩:=ob hb2
       refine s_do (o_iaddr (enc:=encGAtom) rfl rfl (idx0 ex177) (idx1 ex177))<|s_on rfl<|s_q (.iptr (encGAtom x_176) 0) rfl trivial rfl<|s_on rfl<|s_q (.int .i64 x_176.Kind) rfl nle rfl<|s_on rfl<|s_q (.ptr 0 0 1) rfl trivial rfl<|s_on rfl<|s_q (.lst 8 (t_1.Columns.map encGColumn)) rfl nle rfl<|s_on rfl<|s_mov (.int .i64 r_149) rfl<|s_on rfl<|?_
       obtain ⟨x_178,ex179,hb2⟩:=ob hb2
       refine s_do (o_iaddr (enc:=encGColumn) rfl rfl (idx0 ex179) (idx1 ex179))<|s_on rfl<|s_q (.iptr (encGColumn x_178) 1) rfl trivial rfl<|s_on rfl<|s_q (.int .i64 x_178.Kind) rfl nle rfl<|s_on rfl<|s_q (.bool (x_176.Kind != x_178.Kind)) rfl rfl rfl<|s_q (.bool (x_176.Kind != x_178.Kind)) rfl trivial rfl<|s_mov (.bool (x_176.Kind != x_178.Kind)) rfl<|?_
       rcases oi hb2 with ⟨c181,hb2⟩ | ⟨c181,hb2⟩
       ·refine s_lit (s:=47) (b:=true) rfl c181<|s_off rfl rfl<|s_off rfl rfl<|s_off rfl rfl<|s_off rfl rfl<|s_off rfl rfl<|s_offs rfl<|s_offs rfl<|s_offs rfl<|s_offs rfl<|s_offs rfl<|s_offs rfl<|s_offs rfl<|s_off rfl rfl<|s_q (.bool true) rfl trivial rfl<|s_mov (.bool true) rfl<|w_done<|?_;obtain rfl:=os hb2;exact ⟨[],[0],_,_,rfl,rfl,⟨.refl _,⟨.refl _,⟨.refl _,⟨.refl _,⟨.refl _,⟨.refl _,trivial⟩⟩⟩⟩⟩⟩,(.refl _)⟩
       ·refine s_lit (s:=47) (b:=false) rfl (bf c181)<|s_on rfl<|s_q (.ptr 1 0 2) rfl trivial rfl<|s_on rfl<|s_q (.lst 1 (x_148.Names.map AV.str)) rfl nle rfl<|s_on rfl<|s_dof (o_len (enc:=AV.str) rfl) fun hl182 => s_on rfl<|s_q (.bool (decide ((x_148.Names.length:Int) > 0))) rfl rfl rfl<|s_on rfl<|s_mov (.bool (decide ((x_148.Names.length:Int) > 0))) rfl<|?_
        rcases oi hb2 with ⟨c183,hb2⟩ | ⟨c183,hb2⟩
        ·refine s_lit (s:=52) (b:=true) rfl c183<|s_on rfl<|s_q (.ptr 0 0 1) rfl trivial rfl<|s_on rfl<|s_q (.lst 8 (t_1.Columns.map encGColumn)) rfl nle rfl<|s_on rfl<|s_mov (.int .i64 r_149) rfl<|s_on rfl<|?_
         obtain ⟨x_184,ex185,hb2⟩:=ob hb2
         refine s_do (o_iaddr (enc:=encGColumn) rfl rfl (idx0 ex185) (idx1 ex185))<|s_on rfl<|s_q (.iptr (encGColumn x_184) 1) rfl trivial rfl<|s_on rfl<|s_q (.int .i64 x_184.Kind) rfl nle rfl<|s_on rfl<|s_q (.bool (x_184.Kind != 4)) rfl rfl rfl<|s_on rfl<|s_q (.bool (x_184.Kind != 4)) rfl trivial rfl<|s_q (.bool (x_184.Kind != 4)) rfl trivial rfl<|s_mov (.bool (x_184.Kind != 4)) rfl<|w_done<|?_;obtain rfl:=os hb2;exact ⟨[],[0],_,_,rfl,rfl,⟨.refl _,⟨.refl _,⟨.refl _,⟨.refl _,⟨.refl _,⟨.refl _,trivial⟩⟩⟩⟩⟩⟩,(.refl _)⟩
        ·refine s_lit (s:=52) (b:=false) rfl (bf c183)<|s_off rfl rfl<|s_off rfl rfl<|s_off rfl rfl<|s_off rfl rfl<|s_off rfl rfl<|s_off rfl rfl<|s_off rfl rfl<|s_on rfl<|s_q (.bool false) rfl trivial rfl<|s_q (.bool false) rfl trivial rfl<|s_mov (.bool false) rfl<|w_done<|?_;obtain rfl:=os hb2;exact ⟨[],[0],_,_,rfl,rfl,⟨.refl _,⟨.refl _,⟨.refl _,⟨.refl _,⟨.refl _,⟨.refl _,trivial⟩⟩⟩⟩⟩⟩,(.refl _)⟩
      ·refine s_lit (s:=33) (b:=false) rfl (bf c175)<|s_off rfl rfl<|s_off rfl rfl<|s_off rfl rfl<|s_off rfl rfl<|s_off rfl rfl<|s_off rfl rfl<|s_off rfl rfl<|s_off rfl rfl<|s_off rfl rfl<|s_off rfl rfl<|s_off rfl rfl<|s_off rfl rfl<|s_q (.bool false) rfl trivial rfl<|s_mov (.bool false) rfl<|s_on rfl<|s_q (.ptr 1 0 2) rfl trivial rfl<|s_on rfl<|s_q (.lst 1 (x_148.Names.map AV.str)) rfl nle rfl<|s_on rfl<|s_dof (o_len (enc:=AV.str) rfl) fun hl186 => s_on rfl<|s_q (.bool (decide ((x_148.Names.length:Int) > 0))) rfl rfl rfl<|s_on rfl<|s_mov (.bool (decide ((x_148.Names.length:Int) > 0))) rfl<|?_
       rcases oi hb2 with ⟨c187,hb2⟩ | ⟨c187,hb2⟩
       ·refine s_lit (s:=52) (b:=true) rfl c187<|s_on rfl<|s_q (.ptr 0 0 1) rfl trivial rfl<|s_on rfl<|s_q (.lst 8 (t_1.Columns.map encGColumn)) rfl nle rfl<|s_on rfl<|s_mov (.int .i64 r_149) rfl<|s_on rfl<|?_
        obtain ⟨x_188,ex189,hb2⟩:=ob hb2
        refine s_do (o_iaddr (enc:=encGColumn) rfl rfl (idx0 ex189) (idx1 ex189))<|s_on rfl<|s_q (.iptr (encGColumn x_188) 1) rfl trivial rfl<|s_on rfl<|s_q (.int .i64 x_188.Kind) rfl nle rfl<|s_on rfl<|s_q (.bool (x_188.Kind != 4)) rfl rfl rfl<|s_on rfl<|s_q (.bool (x_188.Kind != 4)) rfl trivial rfl<|s_q (.bool (x_188.Kind != 4)) rfl trivial rfl<|s_mov (.bool (x_188.Kind != 4)) rfl<|w_done<|?_;obtain rfl:=os hb2;exact ⟨[],[0],_,_,rfl,rfl,⟨.refl _,⟨.refl _,⟨.refl _,⟨.refl _,⟨.refl _,⟨.refl _,trivial⟩⟩⟩⟩⟩⟩,(.refl _)⟩
       ·refine s_lit (s:=52) (b:=false) rfl (bf c187)<|s_off rfl rfl<|s_off rfl rfl<|s_off rfl rfl<|s_off rfl rfl<|s_off rfl rfl<|s_off rfl rfl<|s_off rfl rfl<|s_on rfl<|s_q (.bool false) rfl trivial rfl<|s_q (.bool false) rfl trivial rfl<|s_mov (.bool false) rfl<|w_done<|?_;obtain rfl:=os hb2;exact ⟨[],[0],_,_,rfl,rfl,⟨.refl _,⟨.refl _,⟨.refl _,⟨.refl _,⟨.refl _,⟨.refl _,trivial⟩⟩⟩⟩⟩⟩,(.refl _)⟩
     ·rcases oi hc1 with ⟨c190,hc1⟩ | ⟨c190,hc1⟩
      ·refine w_condt rfl c190<|sr<|s_mov (.int .i64 9) rfl<|dk<|w_ret<|?_;obtain rfl:=os hc1;obtain rfl:=os hf;exact r_flat ⟨trivial,trivial⟩ rfl (.refl _)
      ·refine w_condf rfl (bf c190)<|w_skip<|k_blk<|k_blk<|k_seq<|w_reg<|s_q (.int .i64 (w64 ((s10_95:Int) + 1))) rfl rfl rfl<|s_mov (.int .i64 (w64 ((s10_95:Int) + 1))) rfl<|w_done<|?_;exact k_loopn ⟨(s10_95 + 1),hc1⟩ (mul hlt142) ⟨[],[0],_,_,rfl,rfl,⟨.refl _,⟨.refl _,⟨.refl _,⟨.refl _,⟨.of_eq (congrArg (AV.int _) (w64_incr hlt142 hl3)),trivial⟩⟩⟩⟩⟩,(.refl _)⟩
 ·rintro ⟨_,rfl⟩
  refine sr<|s_mov (.int .i64 0) rfl<|dk<|w_ret<|?_;obtain rfl:=os hf;exact r_flat ⟨trivial,trivial⟩ rfl (.refl _)

/- slices.Clone[[]impl.Atom,impl.Atom] -/
def c83:ACode :=
 (.seq (.reg (tm 2 (.c .nil) .done))
 (.seq (.seq (.reg (tm 3 (.t 0) (tq 4 (.isnil false (.t 3)) .done)))
 (.cond (.t 4) (.seq (.reg (tm 2 (.c .nil) .done))
 .ret)
 .skip))
 (.seq (.reg (tq 5 (.bslice 3 []) (tm 6 (.t 0) (tq 7 (.append 3 32 (.t 5) (.t 6)) (tm 2 (.t 7) .done)))))
 .ret)))
theorem fc83:fcomp Try.prog Try.f83 = some (c83.erase,[.mov (.t 2)],8):=by kernel_rfl
def slices_Clone_impl_Atom_impl_Atom (s_1:(List GAtom)):Option (List GAtom) :=
    if ([] ++ s_1).length ≤ 2 ^ 30 then
    some ([] ++ s_1)
    else none
theorem w_slices_Clone_impl_Atom_impl_Atom (s_1:(List GAtom)) (r:(List GAtom)) (hf:slices_Clone_impl_Atom_impl_Atom s_1 = some r):CallOK Try.prog 83 .fresh [(.lst 3 (s_1.map encGAtom))] (.lst 3 (r.map encGAtom)):=by
 refine CallOK.of_awp mixed Try.func83 fc83 nle ?_;rw [argT_eq];unfold slices_Clone_impl_Atom_impl_Atom at hf;unfold c83;refine (show awp Try.prog true 0 _ (ofL [(0,(.lst 3 (s_1.map encGAtom)))]) [] _ from ?_);refine sr<|s_mov .nil rfl<|dk<|awp_seq<|sr<|s_mov (.lst 3 (s_1.map encGAtom)) rfl<|s_isn (l:=s_1.map encGAtom) rfl<|?_
 intro b hb3
 rcases b with _ | _
 ·refine dk<|w_condf rfl rfl<|w_skip<|k_seq<|sr<|?_
  obtain ⟨g2,hf⟩:=og hf
  refine s_do (o_bslice (j:=0) (as':=[]) rfl (fun _ => by decide) trivial (.refl _) rfl rfl rfl) ?_;refine s_mov (.lst 3 (s_1.map encGAtom)) rfl ?_
  refine s_do (o_appendd (j:=1) (L:=(([] ++ s_1).map encGAtom)) (len:=([] ++ s_1).length) rfl false rfl rfl (fun _ => flm (fun _ => rfl) _) (fun _ _ _ => flm (fun _ => rfl) _) (by decide) ((by simp)) (by simp <;> omega) g2 rfl rfl) ?_
  refine s_mov (.own 1 0 (([] ++ s_1).length)) rfl<|dk<|w_ret<|?_;obtain rfl:=os hf;exact r_fresh ⟨trivial,trivial⟩ rfl (by decide) (.of_eq (congrArg (AV.lst _) (tk (enc:=encGAtom) ([] ++ s_1))))
 ·have he4:s_1 = []:=mapnil (hb3 rfl)
  have hE:(if ([] ++ s_1).length ≤ 2 ^ 30 then some ([] ++ s_1) else none) = (some []):=by simp [he4]
  rw [hE] at hf;refine dk<|w_condt rfl rfl<|sr<|s_mov .nil rfl<|dk<|w_ret<|?_;obtain rfl:=os hf;exact r_fresh ⟨trivial,trivial⟩ rfl (by decide) (.nil _)

/- impl.copyRow -/
def c82:ACode :=
 (.seq (.reg (tq 1 (.box 2 (.t 0)) (tq 2 (.box 2 (.c (.agg [(.int .i64 0),.nil]))) .done)))
 (.seq (.reg (tq 6 (.bslice 1 []) (tm 3 (.t 6) .done)))
 (.seq (.seq (.reg (tq 7 (.faddr 1 (.t 1)) (tq 8 (.load 1 false (.t 7)) (tq 9 (.len (.t 8)) (tm 10 (.c (.int .i64 0)) .done)))))
 (.block 0 (.loop (.seq (.reg (tq 11 (.bin .lss (.t 10) (.t 9)) .done))
 (.seq (.cond (.t 11) .skip
 (.exit 0))
 (.seq (.block 1 (.seq (.reg (tq 12 (.iaddr 1 (.t 8) (.t 10)) (tq 13 (.load 1 false (.t 12)) (tm 5 (.t 13) .done))))
 (.reg (tm 14 (.t 3) (tm 15 (.t 5) (tq 16 (.call 83 [(.t 15)]) (tq 17 (.bslice 1 [(.t 16)]) (tq 18 (.append 1 24 (.t 14) (.t 17)) (tm 3 (.t 18) .done)))))))))
 (.reg (tq 19 (.bin .add (.t 10) (.c (.int .i64 1))) (tm 10 (.t 19) .done)))))))))
 (.cut (.seq (.seq (.reg (tq 20 (.faddr 1 (.t 1)) (.q ⟨none,none,.store 1 (.t 20) (.c .nil)⟩
 .done)))
 (.seq (.reg (tm 21 (.t 3) (tq 22 (.len (.t 21)) (tq 23 (.bin .gtr (.t 22) (.c (.int .i64 0))) .done))))
 (.cond (.t 23) (.reg (tm 24 (.t 3) (tq 25 (.faddr 1 (.t 1)) (.q ⟨none,none,.store 1 (.t 25) (.t 24)⟩
 .done))))
 .skip)))
 (.seq (.reg (tq 26 (.load 2 true (.t 1)) (.q ⟨none,none,.store 2 (.t 2) (.t 26)⟩
 .done)))
 .ret))))))
theorem fc82:fcomp Try.prog Try.f82 = some (c82.erase,[.load 2 true (.t 2)],27):=by kernel_rfl
def impl_copyRow_L1 :List (List GAtom) → (List (List GAtom)) → Option (List (List GAtom))
  | [],cells_18 =>
    some cells_18
  | x_33 :: xs,cells_18 =>
    (slices_Clone_impl_Atom_impl_Atom x_33).bind fun r_34 =>
    if (cells_18 ++ [r_34]).length ≤ 2 ^ 30 then
    impl_copyRow_L1 xs  (cells_18 ++ [r_34])
    else none

def impl_copyRow (r_1:GRow):Option GRow :=
    (impl_copyRow_L1 r_1.Cells []).bind fun cells_25 =>
    if (decide ((cells_25.length:Int) > 0)) then
    some (⟨r_1.Id,cells_25⟩:GRow)
    else
    some (⟨r_1.Id,[]⟩:GRow)
theorem w_impl_copyRow (r_1:GRow) (r:GRow) (hf:impl_copyRow r_1 = some r):CallOK Try.prog 82 .fresh [(encGRow r_1)] (encGRow r):=by
 refine CallOK.of_awp mixed Try.func82 fc82 nle ?_;rw [argT_eq];unfold impl_copyRow at hf;unfold c82;refine (show awp Try.prog true 0 _ (ofL [(0,(encGRow r_1))]) [] _ from ?_);refine sr<|s_do (o_box (j:=0) (c:=(.agg [(.int .i64 r_1.Id),(.lst 1 (r_1.Cells.map (encL 3 encGAtom)))])) rfl trivial rfl rfl)<|s_do (o_box (j:=1) (c:=(.agg [(.int .i64 0),.nil])) rfl trivial rfl rfl)<|dk<|sr<|?_;refine s_do (o_bslice (j:=2) (as':=[]) rfl (fun _ => by decide) trivial (.refl _) rfl rfl rfl) ?_;refine s_mov (.own 2 0 0) rfl<|dk<|awp_seq<|sr<|s_q (.ptr 0 0 1) rfl trivial rfl<|s_q (.lst 1 (r_1.Cells.map (encL 3 encGAtom))) rfl nle rfl<|s_dof (o_len (enc:=(encL 3 encGAtom)) rfl) fun hl2 => ?_
 refine s_mov (.int .i64 0) rfl<|dk<|?_
 obtain ⟨cells_25,hb1,hf⟩:=ob hf
 refine awp_cut ([(1,(.ptr 0 0 0)),(2,(.ptr 1 0 0)),(3,(.own 2 0 cells_25.length))],[.box 2 (.agg [(.int .i64 r_1.Id),(.lst 1 (r_1.Cells.map (encL 3 encGAtom)))]),.box 2 (.agg [(.int .i64 0),.nil]),.row 1 (cells_25.map (encL 3 encGAtom))]) ?_ ?_
 ·refine awp_loop (X:={q:(Nat × (List (List GAtom))) // impl_copyRow_L1 (r_1.Cells.drop q.1) q.2 = some cells_25}) (fun q => ([(1,(.ptr 0 0 0)),(2,(.ptr 1 0 0)),(3,(.own 2 0 q.1.2.length)),(8,(.lst 1 (r_1.Cells.map (encL 3 encGAtom)))),(9,(.int .i64 (r_1.Cells.length:Int))),(10,(.int .i64 (q.1.1:Int)))],[.box 2 (.agg [(.int .i64 r_1.Id),(.lst 1 (r_1.Cells.map (encL 3 encGAtom)))]),.box 2 (.agg [(.int .i64 0),.nil]),.row 1 (q.1.2.map (encL 3 encGAtom))])) (fun q => r_1.Cells.length - q.1.1) ⟨(0,[]),hb1⟩ ⟨[],[0,1,2],_,_,rfl,rfl,⟨.refl _,⟨.refl _,⟨.of_eq (congrArg (AV.own _ 0) (by simp)),⟨.refl _,⟨.refl _,⟨.refl _,trivial⟩⟩⟩⟩⟩⟩,(.refl _)⟩ ?_
  rintro ⟨⟨s10_17,cells_18⟩,hc1⟩
  have hc1:impl_copyRow_L1 (r_1.Cells.drop s10_17) cells_18 = some cells_25:=hc1
  refine (show awp Try.prog true 0 _ (ofL [(1,(.ptr 0 0 0)),(2,(.ptr 1 0 0)),(3,(.own 2 0 cells_18.length)),(8,(.lst 1 (r_1.Cells.map (encL 3 encGAtom)))),(9,(.int .i64 (r_1.Cells.length:Int))),(10,(.int .i64 (s10_17:Int)))]) [.box 2 (.agg [(.int .i64 r_1.Id),(.lst 1 (r_1.Cells.map (encL 3 encGAtom)))]),.box 2 (.agg [(.int .i64 0),.nil]),.row 1 (cells_18.map (encL 3 encGAtom))] _ from ?_)
  rcases dropc r_1.Cells s10_17 with ⟨hie29,hd32⟩ | ⟨hlt27,x_33,hx28,hd32⟩
  ·rw [hd32,impl_copyRow_L1.eq_1] at hc1
   have hq31:=dlf hie29
   refine sr<|s_q (.bool (decide ((s10_17:Int) < (r_1.Cells.length:Int)))) rfl rfl rfl<|dk<|awp_seq<|w_condf rfl hq31<|w_exit<|k_seqx<|k_loopx<|k_blkx<|?_;obtain rfl:=os hc1;exact ⟨[],[0,1,2],_,_,rfl,rfl,⟨.refl _,⟨.refl _,⟨.refl _,trivial⟩⟩⟩,(.refl _)⟩
  ·rw [hd32,impl_copyRow_L1.eq_2] at hc1
   have hq31:=dlt hlt27
   refine sr<|s_q (.bool (decide ((s10_17:Int) < (r_1.Cells.length:Int)))) rfl rfl rfl<|dk<|awp_seq<|w_condt rfl hq31<|w_skip<|k_seq<|awp_seq<|w_blk<|sr<|s_do (o_iaddrn (enc:=(encL 3 encGAtom)) rfl rfl hx28)<|s_q (.lst 3 (x_33.map encGAtom)) rfl ⟨rfl,rfl⟩ rfl<|s_mov (.lst 3 (x_33.map encGAtom)) rfl<|dk<|w_reg<|?_
   obtain ⟨r_34,er35,hc1⟩:=ob hc1
   obtain ⟨g36,hc1⟩:=og hc1
   refine s_mov (.own 2 0 cells_18.length) rfl<|s_mov (.lst 3 (x_33.map encGAtom)) rfl<|s_do (o_callf (v:=(.own 3 0 r_34.length)) (h':=[.row 3 (r_34.map encGAtom)]) (w_slices_Clone_impl_Atom_impl_Atom _ _ er35) rfl (.refl _) (by simp only [openV,openVs,List.length_map,List.nil_append,List.append_nil,List.cons_append];rfl))<|?_;refine s_do (o_bslice (j:=4) (as':=[(.lst 3 (r_34.map encGAtom))]) rfl (fun _ => by decide) ⟨rfl,trivial⟩ (.cons (.of_eq (congrArg (AV.lst _) (tk (enc:=encGAtom) r_34))) .nil) rfl rfl rfl) ?_
   refine s_do (o_appendd (j:=5) (L:=((cells_18 ++ [r_34]).map (encL 3 encGAtom))) (len:=(cells_18 ++ [r_34]).length) rfl true rfl rfl (fun h => Bool.noConfusion h) (fun _ _ h => (ownl (show AV.own _ _ _ = AV.lst _ _ from h)).elim) (by decide) (apoc (enc:=(encL 3 encGAtom)) cells_18 [r_34] _ (by rfl)) (by simp <;> omega) g36 rfl rfl) ?_
   refine s_mov (.own 5 0 ((cells_18 ++ [r_34]).length)) rfl<|w_done<|k_blk<|k_seq<|w_reg<|s_q (.int .i64 (w64 ((s10_17:Int) + 1))) rfl rfl rfl<|s_mov (.int .i64 (w64 ((s10_17:Int) + 1))) rfl<|w_done<|?_;exact k_loopn ⟨((s10_17 + 1),cells_18 ++ [r_34]),hc1⟩ (mul hlt27) ⟨[],[0,1,5],_,_,rfl,rfl,⟨.refl _,⟨.refl _,⟨.refl _,⟨.refl _,⟨.refl _,⟨.of_eq (congrArg (AV.int _) (w64_incr hlt27 hl2)),trivial⟩⟩⟩⟩⟩⟩,(.refl _)⟩
 ·refine awp_seq<|sr<|s_q (.ptr 0 0 1) rfl trivial rfl<|s_do0 (o_storebox (v:=.nil) (y':=(.agg [(.int .i64 r_1.Id),.nil])) rfl rfl rfl trivial ⟨rfl,nle⟩ ⟨⟨rfl,trivial⟩,trivial⟩ rfl)<|dk<|sr<|s_mov (.own 2 0 cells_25.length) rfl<|s_dof (o_lenown rfl rfl) fun hl37 => s_q (.bool (decide ((cells_25.length:Int) > 0))) rfl rfl rfl<|dk<|?_
  rcases oi hf with ⟨c38,hf⟩ | ⟨c38,hf⟩
  ·refine w_condt rfl c38<|w_reg<|s_mov (.own 2 0 cells_25.length) rfl<|s_q (.ptr 0 0 1) rfl trivial rfl<|s_do0 (o_storebox (v:=(.own 2 0 cells_25.length)) (y':=(.agg [(.int .i64 r_1.Id),(.own 2 0 cells_25.length)])) rfl rfl rfl trivial ⟨rfl,nle⟩ ⟨⟨rfl,trivial⟩,trivial⟩ rfl)<|dk<|sr<|s_q (.agg [(.int .i64 r_1.Id),(.own 2 0 cells_25.length)]) rfl nle rfl<|s_do0 (o_storebox (v:=(.agg [(.int .i64 r_1.Id),(.own 2 0 cells_25.length)])) (y':=(.agg [(.int .i64 r_1.Id),(.own 2 0 cells_25.length)])) rfl rfl rfl trivial ⟨rfl,nle⟩ ⟨⟨rfl,trivial⟩,⟨⟨rfl,trivial⟩,trivial⟩⟩ rfl)<|dk<|w_ret<|?_;obtain rfl:=os hf;exact r_fresh ⟨nle,trivial⟩ rfl (by decide) (.agg (.cons (.refl _) (.cons (.of_eq (congrArg (AV.lst _) (tk (enc:=(encL 3 encGAtom)) cells_25))) .nil)))
  ·refine w_condf rfl (bf c38)<|w_skip<|k_seq<|sr<|s_q (.agg [(.int .i64 r_1.Id),.nil]) rfl nle rfl<|s_do0 (o_storebox (v:=(.agg [(.int .i64 r_1.Id),.nil])) (y':=(.agg [(.int .i64 r_1.Id),.nil])) rfl rfl rfl trivial ⟨rfl,nle⟩ ⟨⟨rfl,trivial⟩,⟨⟨rfl,trivial⟩,trivial⟩⟩ rfl)<|dk<|w_ret<|?_;obtain rfl:=os hf;exact r_fresh ⟨nle,trivial⟩ rfl (by decide) (.agg (.cons (.refl _) (.cons (.nil _) .nil)))

end Go.R
