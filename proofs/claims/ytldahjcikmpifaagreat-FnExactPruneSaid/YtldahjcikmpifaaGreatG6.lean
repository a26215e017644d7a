/- Part of the proof. -/
import Derived.Test.YtldahjcikmpifaaGreatG3
import Derived.Test.YtldahjcikmpifaaGreatG5
import Derived.Test.YtldahjcikmpifaaGreatRows
section
set_option linter.all false
namespace Go.R
open Go Go.Proofs Go.RowKit
set_option maxHeartbeats 1000000
noncomputable def opsG (n:Nat):Array Oper:=(Tryz.f111.body.bind fun c => a3f c n).getD #[]
set_option maxRecDepth 100000
theorem pg3 (a:Act) (W:World) (Q:Exit → Act → World → Prop) (sz:a.tmps.size = 113) (df:a.defers = []) {g:Bool}
    (s6:a.eval (.tmp 6) = .bool (g))
    (hK:∀ a',Fr 113 113 [19] a a' → a'.eval (.tmp 19) = .bool (g) → Q .normal a' W):(Code.region 3 (opsG 3) false).wp Tryz.prog Q a W:=RGP
theorem pg6 (a:Act) (W:World) (Q:Exit → Act → World → Prop) (sz:a.tmps.size = 113) (df:a.defers = []) {i n:Nat}
    (s22:a.eval (.tmp 22) = .int .i64 n) (s23:a.eval (.tmp 23) = .int .i64 i)
    (hK:∀ a',Fr 113 113 [24] a a' → a'.eval (.tmp 24) = .bool (decide ((i:Int) < (n:Int))) → Q .normal a' W):(Code.region 6 (opsG 6) false).wp Tryz.prog Q a W:=RGP
theorem pg9 (a:Act) (W:World) (Q:Exit → Act → World → Prop) (sz:a.tmps.size = 113) (df:a.defers = []) {i n:Nat}
    (s34:a.eval (.tmp 34) = .int .i64 n) (s35:a.eval (.tmp 35) = .int .i64 i)
    (hK:∀ a',Fr 113 113 [36] a a' → a'.eval (.tmp 36) = .bool (decide ((i:Int) < (n:Int))) → Q .normal a' W):(Code.region 9 (opsG 9) false).wp Tryz.prog Q a W:=RGP
theorem f4z (a:Act) (W:World) (Q:Exit → Act → World → Prop) (sz:a.tmps.size = 113) (df:a.defers = []) {i n:Nat}
    (s67:a.eval (.tmp 67) = .int .i64 n) (s68:a.eval (.tmp 68) = .int .i64 i)
    (hK:∀ a',Fr 113 113 [69] a a' → a'.eval (.tmp 69) = .bool (decide ((i:Int) < (n:Int))) → Q .normal a' W):(Code.region 16 (opsG 16) false).wp Tryz.prog Q a W:=RGP
theorem f5a (a:Act) (W:World) (Q:Exit → Act → World → Prop) (sz:a.tmps.size = 113) (df:a.defers = []) {i n:Nat}
    (s75:a.eval (.tmp 75) = .int .i64 n) (s76:a.eval (.tmp 76) = .int .i64 i)
    (hK:∀ a',Fr 113 113 [77] a a' → a'.eval (.tmp 77) = .bool (decide ((i:Int) < (n:Int))) → Q .normal a' W):(Code.region 19 (opsG 19) false).wp Tryz.prog Q a W:=RGP
theorem f5b (a:Act) (W:World) (Q:Exit → Act → World → Prop) (sz:a.tmps.size = 113) (df:a.defers = []) {i n:Nat}
    (s93:a.eval (.tmp 93) = .int .i64 n) (s94:a.eval (.tmp 94) = .int .i64 i)
    (hK:∀ a',Fr 113 113 [95] a a' → a'.eval (.tmp 95) = .bool (decide ((i:Int) < (n:Int))) → Q .normal a' W):(Code.region 23 (opsG 23) false).wp Tryz.prog Q a W:=RGP
theorem f6x (a:Act) (W:World) (Q:Exit → Act → World → Prop) (sz:a.tmps.size = 113) (df:a.defers = []) {z:Int} (hw:IntKind.i64.wrap (z + 1) = z + 1)
    (s35:a.eval (.tmp 35) = .int .i64 z)
    (hK:∀ a',Fr 113 113 [35,63] a a' → a'.eval (.tmp 35) = .int .i64 ((z:Int) + 1) → Q .normal a' W):(Code.region 13 (opsG 13) false).wp Tryz.prog Q a W:=RGP
theorem f6y (a:Act) (W:World) (Q:Exit → Act → World → Prop) (sz:a.tmps.size = 113) (df:a.defers = []) {z:Int} (hw:IntKind.i64.wrap (z + 1) = z + 1)
    (s23:a.eval (.tmp 23) = .int .i64 z)
    (hK:∀ a',Fr 113 113 [23,64] a a' → a'.eval (.tmp 23) = .int .i64 ((z:Int) + 1) → Q .normal a' W):(Code.region 14 (opsG 14) false).wp Tryz.prog Q a W:=RGP
theorem f6z (a:Act) (W:World) (Q:Exit → Act → World → Prop) (sz:a.tmps.size = 113) (df:a.defers = []) {z:Int} (hw:IntKind.i64.wrap (z + 1) = z + 1)
    (s68:a.eval (.tmp 68) = .int .i64 z)
    (hK:∀ a',Fr 113 113 [68,111] a a' → a'.eval (.tmp 68) = .int .i64 ((z:Int) + 1) → Q .normal a' W):(Code.region 28 (opsG 28) false).wp Tryz.prog Q a W:=RGP
theorem f7a (a:Act) (W:World) (Q:Exit → Act → World → Prop) (sz:a.tmps.size = 113) (df:a.defers = []) {z:Int} (hw:IntKind.i64.wrap (z + 1) = z + 1)
    (s76:a.eval (.tmp 76) = .int .i64 z)
    (hK:∀ a',Fr 113 113 [76,110] a a' → a'.eval (.tmp 76) = .int .i64 ((z:Int) + 1) → Q .normal a' W):(Code.region 27 (opsG 27) false).wp Tryz.prog Q a W:=RGP
theorem f7b (a:Act) (W:World) (Q:Exit → Act → World → Prop) (sz:a.tmps.size = 113) (df:a.defers = []) {z:Int} (hw:IntKind.i64.wrap (z + 1) = z + 1)
    (s94:a.eval (.tmp 94) = .int .i64 z)
    (hK:∀ a',Fr 113 113 [94,109] a a' → a'.eval (.tmp 94) = .int .i64 ((z:Int) + 1) → Q .normal a' W):(Code.region 26 (opsG 26) false).wp Tryz.prog Q a W:=RGP
theorem pg5 (a:Act) (W:World) (Q:Exit → Act → World → Prop) (sz:a.tmps.size = 113) (df:a.defers = []) {N2 n0 m0:Nat} {o:Option Addr} (c0:W.cell? ⟨N2,0,none⟩ = some (.slice o n0 m0))
    (s2:a.eval (.tmp 2) = .pointer (some ⟨N2,0,none⟩))
    (hK:∀ a',Fr 113 113 [20,21,22,23] a a' → a'.eval (.tmp 21) = .slice o n0 m0 → a'.eval (.tmp 22) = .int .i64 n0 → a'.eval (.tmp 23) = .int .i64 0 → Q .normal a' W):(Code.region 5 (opsG 5) false).wp Tryz.prog Q a W:=RGP
theorem f7c (a:Act) (W:World) (Q:Exit → Act → World → Prop) (sz:a.tmps.size = 113) (df:a.defers = []) {N2 n0 m0:Nat} {o:Option Addr} (c0:W.cell? ⟨N2,0,none⟩ = some (.slice o n0 m0))
    (s2:a.eval (.tmp 2) = .pointer (some ⟨N2,0,none⟩))
    (hK:∀ a',Fr 113 113 [65,66,67,68] a a' → a'.eval (.tmp 66) = .slice o n0 m0 → a'.eval (.tmp 67) = .int .i64 n0 → a'.eval (.tmp 68) = .int .i64 0 → Q .normal a' W):(Code.region 15 (opsG 15) false).wp Tryz.prog Q a W:=RGP
theorem f7d (a:Act) (W:World) (Q:Exit → Act → World → Prop) (sz:a.tmps.size = 113) (df:a.defers = []) {N n0 m0:Nat} {o:Option Addr} (c0:W.cell? ⟨N,1,none⟩ = some (.slice o n0 m0))
    (s12:a.eval (.tmp 12) = .pointer (some ⟨N,0,none⟩))
    (hK:∀ a',Fr 113 113 [73,74,75,76] a a' → a'.eval (.tmp 74) = .slice o n0 m0 → a'.eval (.tmp 75) = .int .i64 n0 → a'.eval (.tmp 76) = .int .i64 0 → Q .normal a' W):(Code.region 18 (opsG 18) false).wp Tryz.prog Q a W:=RGP
theorem f7e (a:Act) (W:World) (Q:Exit → Act → World → Prop) (sz:a.tmps.size = 113) (df:a.defers = []) {N5 b n0 m0 n1 m1 i:Nat} {og:Option Addr} (c0:W.cell? ⟨N5,0,none⟩ = some (.slice (some ⟨b,0,none⟩) n0 m0)) (c1:W.cell? ⟨b,i,none⟩ = some (.slice og n1 m1)) (h1:(i:Int) < (n0:Int))
    (s5:a.eval (.tmp 5) = .pointer (some ⟨N5,0,none⟩)) (s11:a.eval (.tmp 11) = .int .i64 i)
    (hK:∀ a',Fr 113 113 [88,89,90,91,92,93,94] a a' → a'.eval (.tmp 92) = .slice og n1 m1 → a'.eval (.tmp 93) = .int .i64 n1 → a'.eval (.tmp 94) = .int .i64 0 → Q .normal a' W):(Code.region 22 (opsG 22) false).wp Tryz.prog Q a W:=RGP
theorem pg2 (a:Act) (W:World) (Q:Exit → Act → World → Prop) (sz:a.tmps.size = 113) (df:a.defers = []) 
    (hK:∀ a',Fr 113 113 [6] a a' → a'.eval (.tmp 6) = .bool true → Q .normal a' W):(Code.region 2 (opsG 2) false).wp Tryz.prog Q a W:=RGP
theorem pg4 (a:Act) (W:World) (Q:Exit → Act → World → Prop) (sz:a.tmps.size = 113) (df:a.defers = []) 
    (hK:∀ a',Fr 113 113 [6] a a' → a'.eval (.tmp 6) = .bool false → Q .normal a' W):(Code.region 4 (opsG 4) false).wp Tryz.prog Q a W:=RGP
end Go.R
end
section
set_option linter.all false
namespace Go.R
open Go Go.Proofs Go.RowKit
set_option maxRecDepth 100000
set_option maxHeartbeats 1000000
noncomputable def opsC (n:Nat):Array Oper:=(Tryz.f206.body.bind fun c => a3f c n).getD #[]
noncomputable def RC (n:Nat):Code:=.region n (opsC n) false
noncomputable def skelC:Code:=.seq (RC 0) (.seq (.seq (RC 1) (.cond (.tmp 4) (.seq (RC 2) .ret) .skip)) (.seq (RC 3) .ret))
theorem e2w:Tryz.f206.body = some skelC:=by kernel_rfl
theorem f7f:(Tryz.prog.info? 39).map (fun i => (i.zero,i.size,i.bytes)) = some (some (.agg #[.int .i64 0,.slice none 0 0]),2,32):=by kernel_rfl
theorem f3q:Tryz.prog.underlying 34 = some (.slice 39):=by kernel_rfl
theorem results_tmp {fn:Func} {t:Tmp} (h:fn.results = #[.tmp t]) (tmps:Array Value) (w:World) {P:Program}:(results fn tmps).run P w = .ok (tmps.getD t undef) w:=by
  simp [results,h]
theorem e0s (w:World) (b n m:Nat) (xs:List Value) (hn:n ≤ 1073741824) (hx:xs.length = n * 2) (hc:∀ j u,xs[j]? = some u → w.cell? ((⟨b,0,none⟩:Addr).add j) = some u) (hb:b < w.heap.size) (one:∀ u ∈ xs,u.oneCell' = true) :
    Calls Tryz.prog 206 #[.slice (some ⟨b,0,none⟩) n m] w fun e w' => ∃ y0 y1 y2,e = .returned (.slice y0 y1 y2) ∧ w'.ownsRow w.heap.size 39 2 (.slice y0 y1 y2) n xs ∧ Below w.heap.size w w':=by
  refine calls_of_wp Tryz.func206 e2w ?_
  refine (fun key => key _ (by rw [show Tryz.f206.ntmps = 8 from rfl];simp) rfl (by simp [Act.eval])) (?_:∀ a:Act,a.tmps.size = 8 → a.defers = [] → a.eval (.tmp 0) = .slice (some ⟨b,0,none⟩) n m → skelC.wp Tryz.prog _ a w)
  intro a sz df s0
  have t0:=x9 sz s0
  unfold skelC RC
  have r0:∀ (Q:Exit → Act → World → Prop),(∀ a',Fr 2 8 [] a a' → Q .normal a' w) → (Code.region 0 (opsC 0) false).wp Tryz.prog Q a w:=by
    intro Q hK
    unfold opsC Tryz.f206
    simp only [Option.bind_some,a3f,Nat.reduceEqDiff,reduceIte,Option.none_or,Option.or_none,Option.some_or,Option.getD_some,reduceCtorEq]
    refine wp_region_list ?_
    refine wv (.slice none 0 0) ?_
    refine hK _ ?_
    repeat refine Fr.put ?_ (by decide)
    exact Fr.rfl' sz df
  refine wp_seq (r0 _ ?_)
  intro a1 F1
  have u0:=F1.u s0
  have q0:=x9 F1.sz u0
  have sz1:=F1.sz
  have hd:∀ d,Sem.run Tryz.prog (Op.equalIn (d + 1) 34 (.slice (some ⟨b,0,none⟩) n m) (.slice none 0 0)) w = .ok false w:=by
    intro d
    simp [Op.equalIn,run_underlying f3q]
  have hq:Sem.run Tryz.prog (Op.equal 34 (.slice (some ⟨b,0,none⟩) n m) (.slice none 0 0)) w = .ok false w:=hd 9999
  have r1:∀ (Q:Exit → Act → World → Prop),(∀ a',Fr 2 8 [] a1 a' → a'.eval (.tmp 4) = .bool false → Q .normal a' w) → (Code.region 1 (opsC 1) false).wp Tryz.prog Q a1 w:=by
    intro Q hK
    unfold opsC Tryz.f206
    simp only [Option.bind_some,a3f,Nat.reduceEqDiff,reduceIte,Option.none_or,Option.or_none,Option.some_or,Option.getD_some,reduceCtorEq]
    refine wp_region_list ?_
    refine wv (.slice (some ⟨b,0,none⟩) n m) ?_
    refine a0y rfl (v:=.bool false) (w':=w) (by simp [go_sem,execOp,sz1,binOp,hq]) ?_
    refine hK _ ?_ ?_
    · repeat refine Fr.put ?_ (by decide)
      exact Fr.rfl' F1.sz F1.df
    · simp [a0o,a0n,a1t,sz1]
  refine wp_seq (wp_seq (r1 _ ?_))
  intro a2 F2 e4
  refine wp_cond_false e4 (wp_skip ?_)
  have v0:=F2.u u0
  have p0:=x9 F2.sz v0
  have sz2:=F2.sz
  obtain ⟨i0,hi,hz0,hz1,hz2⟩:=info_parts f7f
  have hM:1073741824 ≤ maxLen:=by decide
  have r3:∀ (Q:Exit → Act → World → Prop),(∀ a' w' y0 y1 y2,Fr 2 8 [] a2 a' → a'.eval (.tmp 2) = .slice y0 y1 y2 → w'.ownsRow w.heap.size 39 2 (.slice y0 y1 y2) n xs → Below w.heap.size w w' → Q .normal a' w') → (Code.region 3 (opsC 3) false).wp Tryz.prog Q a2 w:=by
    intro Q hK
    unfold opsC Tryz.f206
    simp only [Option.bind_some,a3f,Nat.reduceEqDiff,reduceIte,Option.none_or,Option.or_none,Option.some_or,Option.getD_some,reduceCtorEq]
    refine wp_region_list ?_
    refine a0y rfl (v:=.slice (some ⟨w.heap.size,0,none⟩) 0 0) (w':=w.alloc (.cells #[] 39)) (by simp [go_sem,execOp,hi,hz0,hz1]) ?_
    have own0:(w.alloc (.cells #[] 39)).ownsRow w.heap.size 39 2 (.slice (some ⟨w.heap.size,0,none⟩) 0 0) 0 []:=World.ownsRow_made (e:=39) (size:=2) (base:=w.heap.size) w #[] 0 (Nat.le_refl _) (by decide) rfl
    have B1:Below w.heap.size w (w.alloc (.cells #[] 39)):=(Below.refl _ w).alloc (Nat.le_refl _) _
    have z1:(w.alloc (.cells #[] 39)).heap.size = w.heap.size + 1:=by simp
    refine a0y rfl (v:=.slice (some ⟨b,0,none⟩) n m) (w':=w.alloc (.cells #[] 39)) (by simp [go_sem,execOp,sz2,p0]) ?_
    generalize w.alloc (.cells #[] 39) = W1 at own0 B1 z1 ⊢
    refine d3y W1 rfl (.tmp 5) (.tmp 6) 34 rfl w.heap.size 39 i0 _ 2 32 f3q hi hz0 hz1 hz2 rfl (by decide) (.slice (some ⟨w.heap.size,0,none⟩) 0 0) 0 [] own0 ⟨b,0,none⟩ n m xs (by simp [Act.eval,Act.put,sz2]) (by simp [Act.eval,Act.put,sz2]) hx
      (fun j u h => (B1.cell (p:=(⟨b,0,none⟩:Addr).add j) (by by_cases hj:j = 0 <;> simp [Addr.add,hj,hb])).trans (hc j u h)) one (by omega) (by omega) (by omega) ?_
    intro y0 y1 y2 w' own gr
    refine a0y rfl (v:=.slice y0 y1 y2) (w':=w') (by simp [go_sem,execOp,sz2]) ?_
    have hlt:=own0.lt
    refine hK _ _ y0 y1 y2 ?_ ?_ (by simpa using own) (B1.grown gr (by omega) (fun r hr => (hlt r hr).1))
    · repeat refine Fr.put ?_ (by decide)
      exact Fr.rfl' F2.sz F2.df
    · simp [a0o,a0n,a1t,sz2]
  refine wp_seq (r3 _ ?_)
  intro a3 w3 y0 y1 y2 F3 e2 own hB
  refine wp_ret (bodyPost_ret (results_tmp rfl _ _) F3.df ?_)
  exact ⟨y0,y1,y2,congrArg Ending.returned e2,own,hB⟩
end Go.R
end
section
set_option linter.all false
namespace Go.R
open Go Go.Proofs Go.RowKit
set_option maxRecDepth 100000
set_option maxHeartbeats 1000000
theorem e206 (args:Array Value) (w:World):(callFunc 206 args).run Tryz.prog w = .ok (.enter 206 args) w:=enters_of Tryz.func206 (by kernel_rfl) rfl _ _
theorem e143 (args:Array Value) (w:World):(callFunc 143 args).run Tryz.prog w = .ok (.enter 143 args) w:=enters_of Tryz.func143 (by kernel_rfl) rfl _ _
theorem pg8 (a:Act) (W:World) (Q:Exit → Act → World → Prop) (sz:a.tmps.size = 113) (df:a.defers = []) {N5 b n0 m0 i:Nat} {v:Value} {R:Option Addr → Nat → Nat → World → Prop}
    (c0:W.cell? ⟨N5,0,none⟩ = some (.slice (some ⟨b,0,none⟩) n0 m0)) (c1:W.cell? ⟨b,i,none⟩ = some v) (h1:(i:Int) < (n0:Int))
    (s5:a.eval (.tmp 5) = .pointer (some ⟨N5,0,none⟩)) (s7:a.eval (.tmp 7) = .int .i64 i)
    (hc:Calls Tryz.prog 206 #[v] W fun e w' => ∃ y0 y1 y2,e = .returned (.slice y0 y1 y2) ∧ R y0 y1 y2 w')
    (hK:∀ a' w' y0 y1 y2,R y0 y1 y2 w' → Fr 113 113 [28,29,30,31,32,33,34,35] a a' → a'.eval (.tmp 33) = .slice y0 y1 y2 → a'.eval (.tmp 34) = .int .i64 y1 → a'.eval (.tmp 35) = .int .i64 0 → Q .normal a' w'):(Code.region 8 (opsG 8) false).wp Tryz.prog Q a W:=by
  refine rgl ?_
  have t5:=x9 sz s5
  have t7:=x9 sz s7
  refine wv (.pointer (some ⟨N5,0,none⟩)) ?_
  refine wv (.slice (some ⟨b,0,none⟩) n0 m0) ?_
  refine wv (.int .i64 i) ?_
  refine wv (.pointer (some ⟨b,i,none⟩)) ?_
  refine wv v ?_
  refine b7n rfl (f:=206) (args:=#[v]) (by simp [go_sem,execOp,sz,e206]) ?_
  refine hc.mono ?_
  rintro e w' ⟨y0,y1,y2,rfl,hR⟩
  refine ⟨_,rfl,?_⟩
  refine a0y rfl (v:=.int .i64 y1) (w':=w') (by simp [go_sem,execOp,sz]) ?_
  refine a0y rfl (v:=.int .i64 0) (w':=w') (by simp [go_sem,execOp,sz]) ?_
  dsimp only
  refine hK _ _ y0 y1 y2 hR ?_ ?_ ?_ ?_
  · exact fP
  · exact sP
  · exact sP
  · exact sP
theorem pg0 (a:Act) (W:World) (Q:Exit → Act → World → Prop) (sz:a.tmps.size = 113) (df:a.defers = []) {nx:Int} {p0:Option Addr} {p1 p2:Nat} {r0:Option Addr} {r1 r2:Nat}
    (s0:a.eval (.tmp 0) = .agg #[.slice r0 r1 r2]) (s1:a.eval (.tmp 1) = .agg #[.slice p0 p1 p2,.int .i64 nx])
    (hK:∀ a',Fr 113 113 [2,3,4] a a' → a'.eval (.tmp 2) = .pointer (some ⟨W.heap.size,0,none⟩) → a'.eval (.tmp 3) = .pointer (some ⟨W.heap.size + 1,0,none⟩) → a'.eval (.tmp 4) = .pointer (some ⟨W.heap.size + 2,0,none⟩) →
      Q .normal a' (((W.alloc (.cells #[.slice r0 r1 r2] 25)).alloc (.cells #[.slice p0 p1 p2,.int .i64 nx] 29)).alloc (.cells #[.slice none 0 0,.int .i64 0] 29))):(Code.region 0 (opsG 0) false).wp Tryz.prog Q a W:=by
  refine rgl ?_
  have t0:=x9 sz s0
  have t1:=x9 sz s1
  refine a0y rfl (v:=.pointer (some ⟨W.heap.size,0,none⟩)) (w':=W.alloc (.cells #[.slice r0 r1 r2] 25)) (by simp [go_sem,execOp,sz,t0]) ?_
  refine a0y rfl (v:=.pointer (some ⟨W.heap.size + 1,0,none⟩)) (w':=(W.alloc (.cells #[.slice r0 r1 r2] 25)).alloc (.cells #[.slice p0 p1 p2,.int .i64 nx] 29)) (by simp [go_sem,execOp,sz,t1]) ?_
  refine a0y rfl (v:=.pointer (some ⟨W.heap.size + 2,0,none⟩)) (w':=((W.alloc (.cells #[.slice r0 r1 r2] 25)).alloc (.cells #[.slice p0 p1 p2,.int .i64 nx] 29)).alloc (.cells #[.slice none 0 0,.int .i64 0] 29)) (by simp [go_sem,execOp,sz]) ?_
  dsimp only
  exact hK _ fP sP sP sP
end Go.R
end
section
set_option linter.all false
namespace Go.R
open Go Go.Proofs Go.RowKit
set_option maxRecDepth 100000
set_option maxHeartbeats 4000000
noncomputable def opsL (n:Nat):Array Oper:=(Tryz.f208.body.bind fun c => a3f c n).getD #[]
noncomputable def skelL:Code:=.seq (.region 0 (opsL 0) false) (.seq (.region 1 (opsL 1) true) .ret)
theorem f1g:Tryz.f208.body = some skelL:=by kernel_rfl
theorem f7g (args:Array Value) (w:World):(callFunc 171 args).run Tryz.prog w = .ok (.enter 171 args) w:=enters_of Tryz.func171 (by kernel_rfl) rfl _ _
theorem e82 (args:Array Value) (w:World):(callFunc 82 args).run Tryz.prog w = .ok (.enter 82 args) w:=enters_of Tryz.func82 (by kernel_rfl) rfl _ _
theorem f3r (w:World) {k N f nx:Int} {T rf:ByteArray} {N5 N2 NC:Nat} {p0:Option Addr} {p1 p2:Nat} {sv:Value} {b:Bool} (l5:N5 < w.heap.size) (l2:N2 < w.heap.size) (lC:NC < w.heap.size)
    (c0:w.cell? ⟨N5,0,none⟩ = some (.slice p0 p1 p2)) (c1:w.cell? ⟨N5,1,none⟩ = some (.int .i64 nx)) (c2:w.cell? ⟨N2,0,none⟩ = some sv) (c6:w.cell? ⟨NC,6,none⟩ = some (.string rf))
    (hf1:∀ W,Below w.heap.size w W → Calls Tryz.prog 171 #[.agg #[sv],.string rf] W fun e w' => e = .returned (.int .i64 f) ∧ Below W.heap.size W w')
    (hf2:∀ W,Below w.heap.size w W → Calls Tryz.prog 82 #[.agg #[.slice p0 p1 p2,.int .i64 nx],.int .i64 f,.int .i64 N] W fun e w' => e = .returned (.bool b) ∧ Below W.heap.size W w') :
    Calls Tryz.prog 208 #[.agg #[.int .i64 k,.int .i64 N,.string T],.pointer (some ⟨N5,0,none⟩),.pointer (some ⟨N2,0,none⟩),.pointer (some ⟨NC,0,none⟩)] w fun e w' => e = .returned (.bool (!b)) ∧ Below w.heap.size w w':=by
  have mixed:Tryz.prog.follows .mixedOrders = true:=by kernel_rfl
  refine calls_of_wp Tryz.func208 f1g ?_
  refine (fun key => key _ (by rw [show Tryz.f208.ntmps = 15 from rfl];simp) rfl (by simp [Act.eval]) (by simp [Act.eval]) (by simp [Act.eval]) (by simp [Act.eval])) (?_:∀ a:Act,a.tmps.size = 15 → a.defers = [] → a.eval (.tmp 0) = .agg #[.int .i64 k,.int .i64 N,.string T] → a.eval (.tmp 1) = .pointer (some ⟨N5,0,none⟩) → a.eval (.tmp 2) = .pointer (some ⟨N2,0,none⟩) → a.eval (.tmp 3) = .pointer (some ⟨NC,0,none⟩) → skelL.wp Tryz.prog _ a w)
  intro a sz df s0 s1 s2 s3
  have t0:=x9 sz s0
  unfold skelL
  have r0:∀ (Q:Exit → Act → World → Prop),(∀ a',Fr 4 15 [] a a' → a'.eval (.tmp 4) = .pointer (some ⟨w.heap.size,0,none⟩) → Q .normal a' (w.alloc (.cells #[.int .i64 k,.int .i64 N,.string T] 101))) → (Code.region 0 (opsL 0) false).wp Tryz.prog Q a w:=by
    intro Q hK
    unfold opsL Tryz.f208
    simp only [Option.bind_some,a3f,Nat.reduceEqDiff,reduceIte,Option.none_or,Option.or_none,Option.some_or,Option.getD_some,reduceCtorEq]
    refine wp_region_list ?_
    refine a0y rfl (v:=.pointer (some ⟨w.heap.size,0,none⟩)) (w':=w.alloc (.cells #[.int .i64 k,.int .i64 N,.string T] 101)) (by simp [go_sem,execOp,sz,t0]) ?_
    refine a0y rfl (v:=.bool false) (w':=w.alloc (.cells #[.int .i64 k,.int .i64 N,.string T] 101)) (by simp [go_sem,execOp]) ?_
    dsimp only
    refine hK _ ?_ ?_
    · exact fP
    · exact sP
  refine wp_seq (r0 _ ?_)
  intro a1 F1 e4
  have hB:=Bx.new w 101 #[.int .i64 k,.int .i64 N,.string T]
  have B1:Below w.heap.size w (w.alloc (.cells #[.int .i64 k,.int .i64 N,.string T] 101)):=(Below.refl _ w).alloc (Nat.le_refl _) _
  have z1:(w.alloc (.cells #[.int .i64 k,.int .i64 N,.string T] 101)).heap.size = w.heap.size + 1:=by simp
  generalize w.alloc (.cells #[.int .i64 k,.int .i64 N,.string T] 101) = W1 at hB B1 z1 ⊢
  have sz1:=F1.sz
  have t1:=x9 sz1 (F1.u s1)
  have t2:=x9 sz1 (F1.u s2)
  have t3:=x9 sz1 (F1.u s3)
  have t4:=x9 sz1 e4
  have hS:∀ W,Below w.heap.size w W → Bx W w.heap.size 101 #[.int .i64 k,.int .i64 N,.string T] → (fun w':World => Below w.heap.size w w' ∧ w.heap.size < w'.heap.size ∧ w'.cell? ⟨N5,0,none⟩ = some (.slice p0 p1 p2) ∧ w'.cell? ⟨N5,1,none⟩ = some (.int .i64 nx) ∧ w'.cell? ⟨N2,0,none⟩ = some sv ∧ w'.cell? ⟨NC,6,none⟩ = some (.string rf) ∧ w'.cell? ⟨w.heap.size,1,none⟩ = some (.int .i64 N)) W:=fun W h hx =>
    ⟨h,hx.lt,(h.cell (p:=⟨N5,0,none⟩) l5).trans c0,(h.cell (p:=⟨N5,1,none⟩) l5).trans c1,(h.cell (p:=⟨N2,0,none⟩) l2).trans c2,(h.cell (p:=⟨NC,6,none⟩) lC).trans c6,hx.cell0 1⟩
  have r1:∀ (Q:Exit → Act → World → Prop),(∀ c a (d:Tmp) v w,Q (.panic c) (a.put (some d) v) w → Q (.panic c) a w) → (∀ a' w',a'.tmps.size = 15 → a'.defers = [] → a'.eval (.tmp 5) = .bool (!b) → Below w.heap.size w w' → Q .normal a' w') → (Code.region 1 (opsL 1) true).wp Tryz.prog Q a1 W1:=by
    intro Q hQ hK
    unfold opsL Tryz.f208
    simp only [Option.bind_some,a3f,Nat.reduceEqDiff,reduceIte,Option.none_or,Option.or_none,Option.some_or,Option.getD_some,reduceCtorEq]
    refine wp_region_held (S:=fun w' => Below w.heap.size w w' ∧ w.heap.size < w'.heap.size ∧ w'.cell? ⟨N5,0,none⟩ = some (.slice p0 p1 p2) ∧ w'.cell? ⟨N5,1,none⟩ = some (.int .i64 nx) ∧ w'.cell? ⟨N2,0,none⟩ = some sv ∧ w'.cell? ⟨NC,6,none⟩ = some (.string rf) ∧ w'.cell? ⟨w.heap.size,1,none⟩ = some (.int .i64 N)) mixed ?_
    change wpAnyH _ _ _ _ _ _ _ _ W1.drew
    have hS0:=hS W1.drew (B1.drew) hB.drew
    have hN:∀ W W',(fun w':World => Below w.heap.size w w' ∧ w.heap.size < w'.heap.size ∧ w'.cell? ⟨N5,0,none⟩ = some (.slice p0 p1 p2) ∧ w'.cell? ⟨N5,1,none⟩ = some (.int .i64 nx) ∧ w'.cell? ⟨N2,0,none⟩ = some sv ∧ w'.cell? ⟨NC,6,none⟩ = some (.string rf) ∧ w'.cell? ⟨w.heap.size,1,none⟩ = some (.int .i64 N)) W → Below W.heap.size W W' → (fun w':World => Below w.heap.size w w' ∧ w.heap.size < w'.heap.size ∧ w'.cell? ⟨N5,0,none⟩ = some (.slice p0 p1 p2) ∧ w'.cell? ⟨N5,1,none⟩ = some (.int .i64 nx) ∧ w'.cell? ⟨N2,0,none⟩ = some sv ∧ w'.cell? ⟨NC,6,none⟩ = some (.string rf) ∧ w'.cell? ⟨w.heap.size,1,none⟩ = some (.int .i64 N)) W':=by
      rintro W W' ⟨g0,g1,g2,g3,g4,g5,g6⟩ h
      have hz:=g0.size
      exact ⟨g0.trans (h.mono hz),Nat.lt_of_lt_of_le g1 h.size,(h.cell (p:=⟨N5,0,none⟩) (Nat.lt_of_lt_of_le l5 hz)).trans g2,(h.cell (p:=⟨N5,1,none⟩) (Nat.lt_of_lt_of_le l5 hz)).trans g3,(h.cell (p:=⟨N2,0,none⟩) (Nat.lt_of_lt_of_le l2 hz)).trans g4,(h.cell (p:=⟨NC,6,none⟩) (Nat.lt_of_lt_of_le lC hz)).trans g5,(h.cell (p:=⟨w.heap.size,1,none⟩) g1).trans g6⟩
    refine tkx 0 (.agg #[.slice p0 p1 p2,.int .i64 nx]) ?_ hS0
    refine tkx 1 (.agg #[sv]) ?_ hS0
    refine tkx 2 (.pointer (some ⟨NC,6,none⟩)) ?_ hS0
    refine tkx 3 (.string rf) ?_ hS0
    refine tkx 5 (.pointer (some ⟨w.heap.size,1,none⟩)) ?_ hS0
    refine tkx 6 (.int .i64 N) ?_ hS0
    refine wpAnyH_all (rs:=[4]) (by kernel_rfl) (by simp) ?_
    intro i hi3
    obtain rfl:i = 4:=by simpa using hi3
    clear hi3
    refine b6m rfl (by rfl) (f:=171) (args:=#[.agg #[sv],.string rf]) (by simp [go_sem,execOp,sz1,f7g]) ?_
    refine (hf1 _ hS0.1).mono ?_
    rintro e W2 ⟨rfl,b2⟩
    have hS2:=hN _ _ hS0 b2
    refine ⟨_,rfl,hS2,?_⟩
    refine wpAnyH_all (rs:=[7]) (by kernel_rfl) (by simp) ?_
    intro i hi3
    obtain rfl:i = 7:=by simpa using hi3
    clear hi3
    refine b6m rfl (by rfl) (f:=82) (args:=#[.agg #[.slice p0 p1 p2,.int .i64 nx],.int .i64 f,.int .i64 N]) (by simp [go_sem,execOp,sz1,e82]) ?_
    refine (hf2 _ hS2.1).mono ?_
    rintro e W3 ⟨rfl,b3⟩
    have hS3:=hN _ _ hS2 b3
    refine ⟨_,rfl,hS3,?_⟩
    refine tkx 8 (.bool (!b)) ?_ hS3
    refine tkx 9 (.bool (!b)) ?_ hS3
    refine wpAnyH_done (by kernel_rfl) ?_ _
    refine hK _ _ ?_ ?_ ?_ hS3.1
    · simp [a1t,sz1]
    · simp [Act.put,F1.df]
    · simp [a0o,a0n,a1t,sz1]
  refine wp_seq (r1 _ (fun _ _ _ _ _ h => h) ?_)
  intro a2 w2 k1 k2 e5 hb
  refine wp_ret (bodyPost_ret (results_tmp rfl _ _) k2 ?_)
  exact ⟨congrArg Ending.returned e5,hb⟩
end Go.R
end
section
set_option linter.all false
namespace Go.R
open Go Go.Proofs Go.RowKit
set_option maxRecDepth 100000
set_option maxHeartbeats 4000000
noncomputable def opsX (n:Nat):Array Oper:=(Tryz.f294.body.bind fun c => a3f c n).getD #[]
noncomputable def RX (n:Nat):Code:=.region n (opsX n) false
noncomputable def bodyX:Code:=.seq (RX 2) (.seq (.cond (.tmp 9) .skip (.exit 0)) (.seq (.block 1 (.seq (RX 3) (.seq (RX 4) (.cond (.tmp 16) (.seq (RX 5) .ret) .skip)))) (RX 6)))
noncomputable def skelX:Code:=.seq (RX 0) (.seq (.seq (RX 1) (.block 0 (.loop bodyX))) (.seq (RX 7) .ret))
theorem f1h:Tryz.f294.body = some skelX:=by kernel_rfl
theorem e208 (args:Array Value) (w:World):(callFunc 208 args).run Tryz.prog w = .ok (.enter 208 args) w:=enters_of Tryz.func208 (by kernel_rfl) rfl _ _
theorem ig4 (a:Act) (W:World) (Q:Exit → Act → World → Prop) (sz:a.tmps.size = 19) (df:a.defers = []) {b o n m i:Nat} {k N:Int} {T:ByteArray} {caps:Array Value} {r:Bool} {R:World → Prop}
    (c0:W.cell? ⟨b,o + i * 3,none⟩ = some (.int .i64 k)) (c1:W.cell? ⟨b,o + i * 3 + 1,none⟩ = some (.int .i64 N)) (c2:W.cell? ⟨b,o + i * 3 + 2,none⟩ = some (.string T)) (h1:(i:Int) < (n:Int))
    (s0:a.eval (.tmp 0) = .slice (some ⟨b,o,none⟩) n m) (s1:a.eval (.tmp 1) = .func (.func 208) #[] caps) (s5:a.eval (.tmp 5) = .int .i64 i)
    (hc:Calls Tryz.prog 208 (#[.agg #[.int .i64 k,.int .i64 N,.string T]] ++ caps) W fun e w' => e = .returned (.bool r) ∧ R w')
    (hK:∀ a' w',R w' → Fr 9 19 [] a a' → a'.eval (.tmp 16) = .bool r → Q .normal a' w'):(RX 4).wp Tryz.prog Q a W:=by
  unfold RX opsX Tryz.f294
  simp only [Option.bind_some,a3f,Nat.reduceEqDiff,reduceIte,Option.none_or,Option.or_none,Option.some_or,Option.getD_some,reduceCtorEq]
  refine wp_region_list ?_
  have t0:=x9 sz s0
  have t1:=x9 sz s1
  have t5:=x9 sz s5
  refine wv (.func (.func 208) #[] caps) ?_
  refine wv (.slice (some ⟨b,o,none⟩) n m) ?_
  refine wv (.int .i64 i) ?_
  refine wv (.pointer (some ⟨b,o + i * 3,none⟩)) ?_
  refine wv (.agg #[.int .i64 k,.int .i64 N,.string T]) ?_
  refine b7n rfl (f:=208) (args:=#[.agg #[.int .i64 k,.int .i64 N,.string T]] ++ caps) (by simp [go_sem,execOp,a0o,a0n,a1t,sz,e208]) ?_
  refine hc.mono ?_
  rintro e w' ⟨rfl,hR⟩
  refine ⟨_,rfl,?_⟩
  dsimp only
  refine hK _ _ hR ?_ ?_
  · exact fP
  · exact sP
theorem ig0 (a:Act) (W:World) (Q:Exit → Act → World → Prop) (sz:a.tmps.size = 19) (df:a.defers = []) 
    (hK:∀ a',Fr 9 19 [4,5,6,7,8] a a' → a'.eval (.tmp 4) = .int .i64 0 → Q .normal a' W):(RX 0).wp Tryz.prog Q a W:=by
  unfold RX opsX Tryz.f294
  simp only [Option.bind_some,a3f,Nat.reduceEqDiff,reduceIte,Option.none_or,Option.or_none,Option.some_or,Option.getD_some,reduceCtorEq]
  refine wp_region_list ?_
  refine wv (.int .i64 0) ?_
  dsimp only
  exact hK _ fP sP
theorem ig1 (a:Act) (W:World) (Q:Exit → Act → World → Prop) (sz:a.tmps.size = 19) (df:a.defers = []) {p:Option Addr} {n m:Nat}
    (s0:a.eval (.tmp 0) = .slice p n m)
    (hK:∀ a',Fr 9 19 [4,5,6,7,8] a a' → a'.eval (.tmp 7) = .int .i64 n → a'.eval (.tmp 8) = .int .i64 0 → Q .normal a' W):(RX 1).wp Tryz.prog Q a W:=by
  unfold RX opsX Tryz.f294
  simp only [Option.bind_some,a3f,Nat.reduceEqDiff,reduceIte,Option.none_or,Option.or_none,Option.some_or,Option.getD_some,reduceCtorEq]
  refine wp_region_list ?_
  have t0:=x9 sz s0
  refine wv (.slice p n m) ?_
  refine wv (.int .i64 n) ?_
  refine wv (.int .i64 0) ?_
  dsimp only
  exact hK _ fP sP sP
theorem ig2 (a:Act) (W:World) (Q:Exit → Act → World → Prop) (sz:a.tmps.size = 19) (df:a.defers = []) {n i:Nat}
    (s7:a.eval (.tmp 7) = .int .i64 n) (s8:a.eval (.tmp 8) = .int .i64 i)
    (hK:∀ a',Fr 9 19 [4] a a' → a'.eval (.tmp 9) = .bool (decide ((i:Int) < (n:Int))) → Q .normal a' W):(RX 2).wp Tryz.prog Q a W:=by
  unfold RX opsX Tryz.f294
  simp only [Option.bind_some,a3f,Nat.reduceEqDiff,reduceIte,Option.none_or,Option.or_none,Option.some_or,Option.getD_some,reduceCtorEq]
  refine wp_region_list ?_
  have t7:=x9 sz s7
  have t8:=x9 sz s8
  refine wv (.bool (decide ((i:Int) < (n:Int)))) ?_
  dsimp only
  exact hK _ fP sP
theorem ig3 (a:Act) (W:World) (Q:Exit → Act → World → Prop) (sz:a.tmps.size = 19) (df:a.defers = []) {i:Nat}
    (s8:a.eval (.tmp 8) = .int .i64 i)
    (hK:∀ a',Fr 9 19 [5] a a' → a'.eval (.tmp 5) = .int .i64 i → Q .normal a' W):(RX 3).wp Tryz.prog Q a W:=by
  unfold RX opsX Tryz.f294
  simp only [Option.bind_some,a3f,Nat.reduceEqDiff,reduceIte,Option.none_or,Option.or_none,Option.some_or,Option.getD_some,reduceCtorEq]
  refine wp_region_list ?_
  have t8:=x9 sz s8
  refine wv (.int .i64 i) ?_
  refine wv (.int .i64 i) ?_
  dsimp only
  exact hK _ fP sP
theorem ig5 (a:Act) (W:World) (Q:Exit → Act → World → Prop) (sz:a.tmps.size = 19) (df:a.defers = []) {i:Nat}
    (s5:a.eval (.tmp 5) = .int .i64 i)
    (hK:∀ a',Fr 9 19 [4] a a' → a'.eval (.tmp 4) = .int .i64 i → Q .normal a' W):(RX 5).wp Tryz.prog Q a W:=by
  unfold RX opsX Tryz.f294
  simp only [Option.bind_some,a3f,Nat.reduceEqDiff,reduceIte,Option.none_or,Option.or_none,Option.some_or,Option.getD_some,reduceCtorEq]
  refine wp_region_list ?_
  have t5:=x9 sz s5
  refine wv (.int .i64 i) ?_
  refine wv (.int .i64 i) ?_
  dsimp only
  exact hK _ fP sP
theorem ig6 (a:Act) (W:World) (Q:Exit → Act → World → Prop) (sz:a.tmps.size = 19) (df:a.defers = []) {i:Nat} (hw:IntKind.i64.wrap ((i:Int) + 1) = (i:Int) + 1)
    (s8:a.eval (.tmp 8) = .int .i64 i)
    (hK:∀ a',Fr 9 19 [8] a a' → a'.eval (.tmp 8) = .int .i64 ((i:Int) + 1) → Q .normal a' W):(RX 6).wp Tryz.prog Q a W:=by
  unfold RX opsX Tryz.f294
  simp only [Option.bind_some,a3f,Nat.reduceEqDiff,reduceIte,Option.none_or,Option.or_none,Option.some_or,Option.getD_some,reduceCtorEq]
  refine wp_region_list ?_
  have t8:=x9 sz s8
  refine wv (.int .i64 ((i:Int) + 1)) ?_
  refine wv (.int .i64 ((i:Int) + 1)) ?_
  dsimp only
  exact hK _ fP sP
theorem ig7 (a:Act) (W:World) (Q:Exit → Act → World → Prop) (sz:a.tmps.size = 19) (df:a.defers = []) 
    (hK:∀ a',Fr 9 19 [4] a a' → a'.eval (.tmp 4) = .int .i64 (-1) → Q .normal a' W):(RX 7).wp Tryz.prog Q a W:=by
  unfold RX opsX Tryz.f294
  simp only [Option.bind_some,a3f,Nat.reduceEqDiff,reduceIte,Option.none_or,Option.or_none,Option.some_or,Option.getD_some,reduceCtorEq]
  refine wp_region_list ?_
  refine wv (.int .i64 (-1)) ?_
  dsimp only
  exact hK _ fP sP
end Go.R
end
section
set_option linter.all false
namespace Go.R
open Go Go.Proofs Go.RowKit
set_option maxHeartbeats 4000000
def ixN (q:a2h → Bool):List a2h → Nat → Int
  | [],_ => -1
  | x :: xs,i => if q x then (i:Int) else ixN q xs (i + 1)
theorem f2p {Q:Exit → Act → World → Prop} {W0:World} {oc:Option Addr} {n1 m1:Nat} {cs:List a2h} {q:a2h → Bool} {caps:Array Value} (hn1:n1 = cs.length) (h63:n1 ≤ maxLen)
    (hcells:∀ j x,cs[j]? = some x → ∃ b o,oc = some ⟨b,o,none⟩ ∧ b < W0.heap.size ∧ W0.cell? ⟨b,o + j * 3,none⟩ = some (.int .i64 x.1) ∧ W0.cell? ⟨b,o + j * 3 + 1,none⟩ = some (.int .i64 x.2.1) ∧ W0.cell? ⟨b,o + j * 3 + 2,none⟩ = some (.string ⟨x.2.2.toArray⟩))
    (hq:∀ x ∈ cs,∀ W,Below W0.heap.size W0 W → Calls Tryz.prog 208 (#[.agg #[.int .i64 x.1,.int .i64 x.2.1,.string ⟨x.2.2.toArray⟩]] ++ caps) W fun e w' => e = .returned (.bool (q x)) ∧ Below W.heap.size W w') :
    ∀ (xs:List a2h) (j:Nat) (a:Act) (W:World),cs.drop j = xs → a.tmps.size = 19 → a.defers = [] → Below W0.heap.size W0 W →
      a.eval (.tmp 0) = .slice oc n1 m1 → a.eval (.tmp 1) = .func (.func 208) #[] caps → a.eval (.tmp 7) = .int .i64 n1 → a.eval (.tmp 8) = .int .i64 j →
      (∀ a' W',a'.tmps.size = 19 → a'.defers = [] → ixN q xs j = -1 → Below W0.heap.size W0 W' → Q (.exit 0) a' W') →
      (∀ a' W',a'.tmps.size = 19 → a'.defers = [] → a'.eval (.tmp 4) = .int .i64 (ixN q xs j) → Below W0.heap.size W0 W' → Q .ret a' W') → Code.rounds Tryz.prog bodyX Q (xs.length + 1) a W
  | [],j,a,W,hd,sz,df,hB,s0,s1,s7,s8,hE,hR => by
    have hj:cs.length ≤ j:=List.drop_eq_nil_iff.1 hd
    rw [rounds_succ]
    unfold bodyX
    refine wp_seq (ig2 a W _ sz df s7 s8 ?_)
    intro a1 F1 e1
    refine wp_seq (wp_cond_split e1 (fun h => ?_) (fun h => ?_))
    · simp only [decide_eq_true_eq] at h;omega
    · exact wp_exit (hE a1 W F1.sz F1.df rfl hB)
  | x :: xs,j,a,W,hd,sz,df,hB,s0,s1,s7,s8,hE,hR => by
    have hj:j < cs.length:=by
      rcases Nat.lt_or_ge j cs.length with h | h
      · exact h
      · rw [List.drop_eq_nil_iff.2 h] at hd;cases hd
    rw [List.drop_eq_getElem_cons hj] at hd
    simp only [List.cons.injEq] at hd
    obtain ⟨hx,hd⟩:=hd
    have hxj:cs[j]? = some x:=by rw [List.getElem?_eq_getElem hj,hx]
    obtain ⟨b,o,rfl,hb,k0,k1,k2⟩:=hcells j x hxj
    rw [List.length_cons,rounds_succ]
    unfold bodyX
    refine wp_seq (ig2 a W _ sz df s7 s8 ?_)
    intro a1 F1 e1
    refine wp_seq (wp_cond_split e1 (fun h => ?_) (fun h => ?_))
    · refine wp_skip ?_
      have v0:=F1.u s0
      have v1:=F1.u s1
      have v7:=F1.u s7
      have v8:=F1.u s8
      have hw:IntKind.i64.wrap ((j:Int) + 1) = (j:Int) + 1:=by
        refine b6b ?_
        have:(j:Int) + 1 ≤ 9223372036854775807:=by unfold maxLen at h63;omega
        omega
      refine wp_seq (wp_block (wp_seq (ig3 a1 W _ F1.sz F1.df v8 ?_)))
      intro a2 F2 e5
      have u0:=F2.u v0
      have u1:=F2.u v1
      have u7:=F2.u v7
      have u8:=F2.u v8
      refine wp_seq (ig4 a2 W _ F2.sz F2.df (R:=fun w' => Below W.heap.size W w') ((hB.cell (p:=⟨b,o + j * 3,none⟩) hb).trans k0) ((hB.cell (p:=⟨b,o + j * 3 + 1,none⟩) hb).trans k1) ((hB.cell (p:=⟨b,o + j * 3 + 2,none⟩) hb).trans k2) (by omega) u0 u1 e5 (hq x (List.mem_of_getElem? hxj) W hB) ?_)
      intro a3 w3 hb3 F3 e16
      have hB3:Below W0.heap.size W0 w3:=hB.trans (hb3.mono hB.size)
      have p0:=F3.u u0
      have p1:=F3.u u1
      have p5:=F3.u e5
      have p7:=F3.u u7
      have p8:=F3.u u8
      refine wp_cond_split e16 (fun hqx => ?_) (fun hqx => ?_)
      · refine wp_seq (ig5 a3 w3 _ F3.sz F3.df p5 ?_)
        intro a4 F4 e4
        refine wp_ret ?_
        refine hR a4 w3 F4.sz F4.df ?_ hB3
        rw [e4]
        simp [ixN,hqx]
      · refine wp_skip ?_
        refine ig6 a3 w3 _ F3.sz F3.df hw p8 ?_
        intro a4 F4 e8
        have hf:q x = false:=by simpa using hqx
        have hix:ixN q (x :: xs) j = ixN q xs (j + 1):=by simp [ixN,hf]
        refine f2p hn1 h63 hcells hq xs (j + 1) a4 w3 hd F4.sz F4.df hB3 (F4.u p0) (F4.u p1) (F4.u p7) (by rw [e8];simp) ?_ ?_
        · intro a' W' z1 z2 z3 z4
          exact hE a' W' z1 z2 (hix.trans z3) z4
        · intro a' W' z1 z2 z3 z4
          exact hR a' W' z1 z2 (by rw [hix];exact z3) z4
    · simp only [decide_eq_false_iff_not] at h;omega
theorem d8a {W0:World} {oc:Option Addr} {n1 m1:Nat} {cs:List a2h} {q:a2h → Bool} {caps:Array Value} (hn1:n1 = cs.length) (h63:n1 ≤ maxLen)
    (hcells:∀ j x,cs[j]? = some x → ∃ b o,oc = some ⟨b,o,none⟩ ∧ b < W0.heap.size ∧ W0.cell? ⟨b,o + j * 3,none⟩ = some (.int .i64 x.1) ∧ W0.cell? ⟨b,o + j * 3 + 1,none⟩ = some (.int .i64 x.2.1) ∧ W0.cell? ⟨b,o + j * 3 + 2,none⟩ = some (.string ⟨x.2.2.toArray⟩))
    (hq:∀ x ∈ cs,∀ W,Below W0.heap.size W0 W → Calls Tryz.prog 208 (#[.agg #[.int .i64 x.1,.int .i64 x.2.1,.string ⟨x.2.2.toArray⟩]] ++ caps) W fun e w' => e = .returned (.bool (q x)) ∧ Below W.heap.size W w') :
    Calls Tryz.prog 294 #[.slice oc n1 m1,.func (.func 208) #[] caps] W0 fun e w' => e = .returned (.int .i64 (ixN q cs 0)) ∧ Below W0.heap.size W0 w':=by
  refine calls_of_wp Tryz.func294 f1h ?_
  refine (fun key => key _ (by rw [show Tryz.f294.ntmps = 19 from rfl];simp) rfl (by simp [Act.eval]) (by simp [Act.eval])) (?_:∀ a:Act,a.tmps.size = 19 → a.defers = [] → a.eval (.tmp 0) = .slice oc n1 m1 → a.eval (.tmp 1) = .func (.func 208) #[] caps → skelX.wp Tryz.prog _ a W0)
  intro a sz df s0 s1
  unfold skelX
  refine wp_seq (ig0 a W0 _ sz df ?_)
  intro a1 F1 _
  have v0:=F1.u s0
  have v1:=F1.u s1
  refine wp_seq (wp_seq (ig1 a1 W0 _ F1.sz F1.df v0 ?_))
  intro a2 F2 e7 e8
  have u0:=F2.u v0
  have u1:=F2.u v1
  refine wp_block (wp_loop_rounds _ (f2p hn1 h63 hcells hq cs 0 a2 W0 rfl F2.sz F2.df (Below.refl _ _) u0 u1 e7 (by rw [e8];rfl) ?_ ?_))
  · intro a3 w3 z1 z2 z3 hB
    refine wp_seq (ig7 a3 w3 _ z1 z2 ?_)
    intro a4 F4 e4
    refine wp_ret (bodyPost_ret (results_tmp rfl _ _) F4.df ?_)
    exact ⟨congrArg Ending.returned (e4.trans (by rw [z3])),hB⟩
  · intro a3 w3 z1 z2 e4 hB
    simp only [Exit.inBlock,Exit.then]
    refine bodyPost_ret (results_tmp rfl _ _) z2 ?_
    exact ⟨congrArg Ending.returned e4,hB⟩
end Go.R
end
section
set_option linter.all false
namespace Go.R
open Go Go.Proofs Go.RowKit
set_option maxRecDepth 100000
set_option maxHeartbeats 4000000
noncomputable def opsD (n:Nat):Array Oper:=(Tryz.f207.body.bind fun c => a3f c n).getD #[]
noncomputable def RD (n:Nat):Code:=.region n (opsD n) false
noncomputable def bodyD:Code:=.seq (.seq (RD 5) (.cond (.tmp 19) .skip (.exit 0))) (.seq (.block 1 (.seq (RD 7) (.seq (RD 8) (.cond (.tmp 29) (.seq (RD 9) (RD 10)) .skip)))) (RD 6))
noncomputable def skelD:Code:=.seq (RD 0) (.seq (RD 1) (.seq (.seq (RD 2) (.cond (.tmp 12) (.seq (RD 3) .ret) .skip)) (.seq (.seq (RD 4) (.block 0 (.loop bodyD))) (.seq (RD 11) (.seq (RD 12) .ret)))))
theorem e2x:Tryz.f207.body = some skelD:=by kernel_rfl
theorem e294 (args:Array Value) (w:World):(callFunc 294 args).run Tryz.prog w = .ok (.enter 294 args) w:=enters_of Tryz.func294 (by kernel_rfl) rfl _ _
theorem dg3 (a:Act) (W:World) (Q:Exit → Act → World → Prop) (sz:a.tmps.size = 42) (df:a.defers = []) {p:Option Addr} {n m:Nat}
    (s0:a.eval (.tmp 0) = .slice p n m)
    (hK:∀ a',Fr 8 42 [4] a a' → a'.eval (.tmp 4) = .slice p n m → Q .normal a' W):(RD 3).wp Tryz.prog Q a W:=by
  unfold RD opsD Tryz.f207
  simp only [Option.bind_some,a3f,Nat.reduceEqDiff,reduceIte,Option.none_or,Option.or_none,Option.some_or,Option.getD_some,reduceCtorEq]
  refine wp_region_list ?_
  have t0:=x9 sz s0
  refine wv (.slice p n m) ?_
  refine wv (.slice p n m) ?_
  dsimp only
  exact hK _ fP sP
theorem dg4 (a:Act) (W:World) (Q:Exit → Act → World → Prop) (sz:a.tmps.size = 42) (df:a.defers = []) {i:Nat} (hw:IntKind.i64.wrap ((i:Int) + 1) = (i:Int) + 1)
    (s5:a.eval (.tmp 5) = .int .i64 i)
    (hK:∀ a',Fr 8 42 [6] a a' → a'.eval (.tmp 6) = .int .i64 ((i:Int) + 1) → Q .normal a' W):(RD 4).wp Tryz.prog Q a W:=by
  unfold RD opsD Tryz.f207
  simp only [Option.bind_some,a3f,Nat.reduceEqDiff,reduceIte,Option.none_or,Option.or_none,Option.some_or,Option.getD_some,reduceCtorEq]
  refine wp_region_list ?_
  have t5:=x9 sz s5
  refine wv (.int .i64 i) ?_
  refine wv (.int .i64 ((i:Int) + 1)) ?_
  refine wv (.int .i64 ((i:Int) + 1)) ?_
  dsimp only
  exact hK _ fP sP
theorem dg5 (a:Act) (W:World) (Q:Exit → Act → World → Prop) (sz:a.tmps.size = 42) (df:a.defers = []) {p:Option Addr} {n m:Nat} {j:Nat}
    (s0:a.eval (.tmp 0) = .slice p n m) (s6:a.eval (.tmp 6) = .int .i64 j)
    (hK:∀ a',Fr 8 42 [] a a' → a'.eval (.tmp 19) = .bool (decide ((j:Int) < (n:Int))) → Q .normal a' W):(RD 5).wp Tryz.prog Q a W:=by
  unfold RD opsD Tryz.f207
  simp only [Option.bind_some,a3f,Nat.reduceEqDiff,reduceIte,Option.none_or,Option.or_none,Option.some_or,Option.getD_some,reduceCtorEq]
  refine wp_region_list ?_
  have t0:=x9 sz s0
  have t6:=x9 sz s6
  refine wv (.int .i64 j) ?_
  refine wv (.slice p n m) ?_
  refine wv (.int .i64 n) ?_
  refine wv (.bool (decide ((j:Int) < (n:Int)))) ?_
  dsimp only
  exact hK _ fP sP
theorem dg6 (a:Act) (W:World) (Q:Exit → Act → World → Prop) (sz:a.tmps.size = 42) (df:a.defers = []) {j:Nat} (hw:IntKind.i64.wrap ((j:Int) + 1) = (j:Int) + 1)
    (s6:a.eval (.tmp 6) = .int .i64 j)
    (hK:∀ a',Fr 8 42 [6] a a' → a'.eval (.tmp 6) = .int .i64 ((j:Int) + 1) → Q .normal a' W):(RD 6).wp Tryz.prog Q a W:=by
  unfold RD opsD Tryz.f207
  simp only [Option.bind_some,a3f,Nat.reduceEqDiff,reduceIte,Option.none_or,Option.or_none,Option.some_or,Option.getD_some,reduceCtorEq]
  refine wp_region_list ?_
  have t6:=x9 sz s6
  refine wv (.int .i64 j) ?_
  refine wv (.int .i64 ((j:Int) + 1)) ?_
  refine wv (.int .i64 ((j:Int) + 1)) ?_
  dsimp only
  exact hK _ fP sP
theorem f7h (a:Act) (W:World) (Q:Exit → Act → World → Prop) (sz:a.tmps.size = 42) (df:a.defers = []) {i:Nat} (hw:IntKind.i64.wrap ((i:Int) + 1) = (i:Int) + 1)
    (s5:a.eval (.tmp 5) = .int .i64 i)
    (hK:∀ a',Fr 8 42 [5] a a' → a'.eval (.tmp 5) = .int .i64 ((i:Int) + 1) → Q .normal a' W):(RD 10).wp Tryz.prog Q a W:=by
  unfold RD opsD Tryz.f207
  simp only [Option.bind_some,a3f,Nat.reduceEqDiff,reduceIte,Option.none_or,Option.or_none,Option.some_or,Option.getD_some,reduceCtorEq]
  refine wp_region_list ?_
  have t5:=x9 sz s5
  refine wv (.int .i64 i) ?_
  refine wv (.int .i64 ((i:Int) + 1)) ?_
  refine wv (.int .i64 ((i:Int) + 1)) ?_
  dsimp only
  exact hK _ fP sP
theorem dg2 (a:Act) (W:World) (Q:Exit → Act → World → Prop) (sz:a.tmps.size = 42) (df:a.defers = []) {x:Int}
    (s5:a.eval (.tmp 5) = .int .i64 x)
    (hK:∀ a',Fr 8 42 [] a a' → a'.eval (.tmp 12) = .bool (x == -1) → Q .normal a' W):(RD 2).wp Tryz.prog Q a W:=by
  unfold RD opsD Tryz.f207
  simp only [Option.bind_some,a3f,Nat.reduceEqDiff,reduceIte,Option.none_or,Option.or_none,Option.some_or,Option.getD_some,reduceCtorEq]
  refine wp_region_list ?_
  have t5:=x9 sz s5
  refine wv (.int .i64 x) ?_
  refine wv (.bool (x == -1)) ?_
  dsimp only
  exact hK _ fP sP
end Go.R
end
section
set_option linter.all false
namespace Go.R
open Go Go.Proofs Go.RowKit
set_option maxRecDepth 100000
set_option maxHeartbeats 4000000
theorem dg1 (a:Act) (W:World) (Q:Exit → Act → World → Prop) (sz:a.tmps.size = 42) (df:a.defers = []) {sv fv:Value} {x:Int} {R:World → Prop}
    (s0:a.eval (.tmp 0) = sv) (s1:a.eval (.tmp 1) = fv)
    (hc:Calls Tryz.prog 294 #[sv,fv] W fun e w' => e = .returned (.int .i64 x) ∧ R w')
    (hK:∀ a' w',R w' → Fr 8 42 [5] a a' → a'.eval (.tmp 5) = .int .i64 x → Q .normal a' w'):(RD 1).wp Tryz.prog Q a W:=by
  unfold RD opsD Tryz.f207
  simp only [Option.bind_some,a3f,Nat.reduceEqDiff,reduceIte,Option.none_or,Option.or_none,Option.some_or,Option.getD_some,reduceCtorEq]
  refine wp_region_list ?_
  have t0:=x9 sz s0
  have t1:=x9 sz s1
  refine wv sv ?_
  refine wv fv ?_
  refine b7n rfl (f:=294) (args:=#[sv,fv]) (by simp [go_sem,execOp,a0o,a0n,a1t,sz,e294]) ?_
  refine hc.mono ?_
  rintro e w' ⟨rfl,hR⟩
  refine ⟨_,rfl,?_⟩
  refine a0y rfl (v:=.int .i64 x) (w':=w') (by simp [go_sem,execOp,a0o,a0n,a1t,sz]) ?_
  dsimp only
  refine hK _ _ hR ?_ ?_
  · exact fP
  · exact sP
theorem dg8 (a:Act) (W:World) (Q:Exit → Act → World → Prop) (sz:a.tmps.size = 42) (df:a.defers = []) {B:Nat} {k N:Int} {T:ByteArray} {caps:Array Value} {r:Bool} {R:World → Prop}
    (c0:Bx W B 101 #[.int .i64 k,.int .i64 N,.string T])
    (s1:a.eval (.tmp 1) = .func (.func 208) #[] caps) (s7:a.eval (.tmp 7) = .pointer (some ⟨B,0,none⟩))
    (hc:Calls Tryz.prog 208 (#[.agg #[.int .i64 k,.int .i64 N,.string T]] ++ caps) W fun e w' => e = .returned (.bool r) ∧ R w')
    (hK:∀ a' w',R w' → Fr 8 42 [] a a' → a'.eval (.tmp 29) = .bool (!r) → Q .normal a' w'):(RD 8).wp Tryz.prog Q a W:=by
  unfold RD opsD Tryz.f207
  simp only [Option.bind_some,a3f,Nat.reduceEqDiff,reduceIte,Option.none_or,Option.or_none,Option.some_or,Option.getD_some,reduceCtorEq]
  refine wp_region_list ?_
  have t1:=x9 sz s1
  have t7:=x9 sz s7
  have k0:=c0.cell0 0
  have k1:=c0.cell0 1
  have k2:=c0.cell0 2
  simp at k0 k1 k2
  refine wv (.func (.func 208) #[] caps) ?_
  refine wv (.agg #[.int .i64 k,.int .i64 N,.string T]) ?_
  refine b7n rfl (f:=208) (args:=#[.agg #[.int .i64 k,.int .i64 N,.string T]] ++ caps) (by simp [go_sem,execOp,a0o,a0n,a1t,sz,e208]) ?_
  refine hc.mono ?_
  rintro e w' ⟨rfl,hR⟩
  refine ⟨_,rfl,?_⟩
  refine a0y rfl (v:=.bool (!r)) (w':=w') (by simp [go_sem,execOp,a0o,a0n,a1t,sz]) ?_
  dsimp only
  refine hK _ _ hR ?_ ?_
  · exact fP
  · exact sP
theorem f7i (a:Act) (W:World) (Q:Exit → Act → World → Prop) (sz:a.tmps.size = 42) (df:a.defers = []) {b o n m i:Nat} (hi:i ≤ m)
    (s0:a.eval (.tmp 0) = .slice (some ⟨b,o,none⟩) n m) (s5:a.eval (.tmp 5) = .int .i64 i)
    (hK:∀ a',Fr 8 42 [4] a a' → a'.eval (.tmp 4) = .slice (some ⟨b,o,none⟩) i m → Q .normal a' W):(RD 12).wp Tryz.prog Q a W:=by
  unfold RD opsD Tryz.f207
  simp only [Option.bind_some,a3f,Nat.reduceEqDiff,reduceIte,Option.none_or,Option.or_none,Option.some_or,Option.getD_some,reduceCtorEq]
  refine wp_region_list ?_
  have t0:=x9 sz s0
  have t5:=x9 sz s5
  refine wv (.slice (some ⟨b,o,none⟩) n m) ?_
  refine wv (.int .i64 i) ?_
  refine wv (.slice (some ⟨b,o,none⟩) i m) ?_
  refine wv (.slice (some ⟨b,o,none⟩) i m) ?_
  dsimp only
  exact hK _ fP sP
end Go.R
end
section
set_option linter.all false
namespace Go.R
open Go Go.Proofs Go.RowKit
set_option maxRecDepth 100000
set_option maxHeartbeats 4000000
theorem dg7 (a:Act) (W:World) (Q:Exit → Act → World → Prop) (sz:a.tmps.size = 42) (df:a.defers = []) {b o n m j:Nat} {k N:Int} {T:ByteArray}
    (c0:W.cell? ⟨b,o + j * 3,none⟩ = some (.int .i64 k)) (c1:W.cell? ⟨b,o + j * 3 + 1,none⟩ = some (.int .i64 N)) (c2:W.cell? ⟨b,o + j * 3 + 2,none⟩ = some (.string T)) (h1:(j:Int) < (n:Int))
    (s0:a.eval (.tmp 0) = .slice (some ⟨b,o,none⟩) n m) (s6:a.eval (.tmp 6) = .int .i64 j)
    (hK:∀ a' W',Bx W' W.heap.size 101 #[.int .i64 k,.int .i64 N,.string T] → Below W.heap.size W W' → Fr 8 42 [7] a a' → a'.eval (.tmp 7) = .pointer (some ⟨W.heap.size,0,none⟩) → Q .normal a' W'):(RD 7).wp Tryz.prog Q a W:=by
  unfold RD opsD Tryz.f207
  simp only [Option.bind_some,a3f,Nat.reduceEqDiff,reduceIte,Option.none_or,Option.or_none,Option.some_or,Option.getD_some,reduceCtorEq]
  refine wp_region_list ?_
  have t0:=x9 sz s0
  have t6:=x9 sz s6
  refine wv (.slice (some ⟨b,o,none⟩) n m) ?_
  refine wv (.int .i64 j) ?_
  refine wv (.pointer (some ⟨b,o + j * 3,none⟩)) ?_
  refine wv (.agg #[.int .i64 k,.int .i64 N,.string T]) ?_
  refine a0y rfl (v:=.pointer (some ⟨W.heap.size,0,none⟩)) (w':=W.alloc (.cells #[.int .i64 0,.int .i64 0,.string ⟨#[]⟩] 101)) (by simp [go_sem,execOp];try rfl) ?_
  have hB:=Bx.new W 101 #[.int .i64 0,.int .i64 0,.string ⟨#[]⟩]
  have B1:Below W.heap.size W (W.alloc (.cells #[.int .i64 0,.int .i64 0,.string ⟨#[]⟩] 101)):=(Below.refl _ W).alloc (Nat.le_refl _) _
  generalize W.alloc (.cells #[.int .i64 0,.int .i64 0,.string ⟨#[]⟩] 101) = W1 at hB B1 ⊢
  have hz:W.heap.size < W1.heap.size:=hB.lt
  have b1:=hB.setk 0 (.int .i64 k)
  have b2:=b1.setk 1 (.int .i64 N)
  have b3:=b2.setk 2 (.string T)
  have f0:=hB.cell0 0
  have f1:=b1.cell0 1
  have f2:=b2.cell0 2
  have g0:=hB.frozen 0
  have g1:=b1.frozen 1
  have g2:=b2.frozen 2
  simp at f0 f1 f2
  refine b0e rfl (w':=((W1.setCell ⟨W.heap.size,0,none⟩ (.int .i64 k)).setCell ⟨W.heap.size,1,none⟩ (.int .i64 N)).setCell ⟨W.heap.size,2,none⟩ (.string T)) (by simp [go_sem,execOp,a0o,a0n,a1t,sz,f0,f1,f2,g0,g1,g2]) ?_
  dsimp only
  refine hK _ _ ?_ ?_ ?_ ?_
  · simpa using b3
  · exact ((B1.setCell (p:=⟨W.heap.size,0,none⟩) (Nat.le_refl _) _).setCell (p:=⟨W.heap.size,1,none⟩) (Nat.le_refl _) _).setCell (p:=⟨W.heap.size,2,none⟩) (Nat.le_refl _) _
  · exact fP
  · simp [a0o,a0n,a1t,sz,a6x]
end Go.R
end
section
set_option linter.all false
namespace Go.R
open Go Go.Proofs Go.RowKit
set_option maxRecDepth 100000
set_option maxHeartbeats 4000000
theorem dg9 (a:Act) (W:World) (Q:Exit → Act → World → Prop) (sz:a.tmps.size = 42) (df:a.defers = []) {B b n m i:Nat} {k N:Int} {T:ByteArray} {cs:Array Value} {eb:TypeId}
    (c0:Bx W B 101 #[.int .i64 k,.int .i64 N,.string T]) (cb:Bx W b eb cs) (hl:i * 3 + 2 < cs.size) (h1:(i:Int) < (n:Int))
    (s0:a.eval (.tmp 0) = .slice (some ⟨b,0,none⟩) n m) (s5:a.eval (.tmp 5) = .int .i64 i) (s7:a.eval (.tmp 7) = .pointer (some ⟨B,0,none⟩))
    (hK:∀ a',Fr 8 42 [] a a' → Q .normal a' (((W.setCell ⟨b,i * 3,none⟩ (.int .i64 k)).setCell ⟨b,i * 3 + 1,none⟩ (.int .i64 N)).setCell ⟨b,i * 3 + 2,none⟩ (.string T))):(RD 9).wp Tryz.prog Q a W:=by
  unfold RD opsD Tryz.f207
  simp only [Option.bind_some,a3f,Nat.reduceEqDiff,reduceIte,Option.none_or,Option.or_none,Option.some_or,Option.getD_some,reduceCtorEq]
  refine wp_region_list ?_
  have t0:=x9 sz s0
  have t5:=x9 sz s5
  have t7:=x9 sz s7
  have k0:=c0.cell0 0
  have k1:=c0.cell0 1
  have k2:=c0.cell0 2
  simp at k0 k1 k2
  have b1:=cb.setk (i * 3) (.int .i64 k)
  have b2:=b1.setk (i * 3 + 1) (.int .i64 N)
  have f0:=cb.cell0 (i * 3)
  have f1:=b1.cell0 (i * 3 + 1)
  have f2:=b2.cell0 (i * 3 + 2)
  rw [Array.getElem?_eq_getElem (by omega)] at f0
  rw [Array.getElem?_eq_getElem (by simp; omega)] at f1
  rw [Array.getElem?_eq_getElem (by simp; omega)] at f2
  have g0:=cb.frozen (i * 3)
  have g1:=b1.frozen (i * 3 + 1)
  have g2:=b2.frozen (i * 3 + 2)
  refine wv (.slice (some ⟨b,0,none⟩) n m) ?_
  refine wv (.int .i64 i) ?_
  refine wv (.agg #[.int .i64 k,.int .i64 N,.string T]) ?_
  refine wv (.pointer (some ⟨b,i * 3,none⟩)) ?_
  refine b0e rfl (w':=((W.setCell ⟨b,i * 3,none⟩ (.int .i64 k)).setCell ⟨b,i * 3 + 1,none⟩ (.int .i64 N)).setCell ⟨b,i * 3 + 2,none⟩ (.string T)) (by simp [go_sem,execOp,a0o,a0n,a1t,sz,f0,f1,f2,g0,g1,g2]) ?_
  dsimp only
  refine hK _ ?_
  repeat refine Fr.put ?_ (by decide)
  exact Fr.rfl' sz df
end Go.R
end
section
set_option linter.all false
namespace Go.R
open Go Go.Proofs Go.RowKit
set_option maxHeartbeats 4000000
structure Bt (b:Nat) (w w':World):Prop where
  os:w'.os = w.os
  tape:w'.tape = w.tape
  output:w'.output = w.output
  size:w.heap.size ≤ w'.heap.size
  block:∀ k,k < w.heap.size → k ≠ b → w'.heap[k]? = w.heap[k]?
theorem Bt.of {b:Nat} {w w':World} (h:Below w.heap.size w w'):Bt b w w':=⟨h.os,h.tape,h.output,h.size,fun k hk _ => h.block k hk⟩
theorem Bt.below {b:Nat} {w w' w2:World} (h:Bt b w w') (hb:Below w'.heap.size w' w2):Bt b w w2 :=
  ⟨hb.os.trans h.os,hb.tape.trans h.tape,hb.output.trans h.output,Nat.le_trans h.size hb.size,fun k hk hn => (hb.block k (Nat.lt_of_lt_of_le hk h.size)).trans (h.block k hk hn)⟩
theorem Bt.setCell {b:Nat} {w w':World} (h:Bt b w w') (o:Nat) (v:Value):Bt b w (w'.setCell ⟨b,o,none⟩ v) :=
  ⟨h.os,h.tape,h.output,by simpa using h.size,fun k hk hn => (Below.heap_setCell _ _ _ _ hn).trans (h.block k hk hn)⟩
def AtL (cs:List Value) (L:List a2h):Prop:=∀ j x,L[j]? = some x → cs[j * 3]? = some (.int .i64 x.1) ∧ cs[j * 3 + 1]? = some (.int .i64 x.2.1) ∧ cs[j * 3 + 2]? = some (.string ⟨x.2.2.toArray⟩)
theorem AtL.flat:∀ {L:List a2h} {cs:List Value},AtL cs L → cs.take (L.length * 3) = L.flatMap wA
  | [],cs,_ => by simp
  | x :: l,cs,h => by
    obtain ⟨h0,h1,h2⟩:=h 0 x rfl
    obtain ⟨a,b,c,r,rfl⟩:∃ a b c r,cs = a :: b :: c :: r:=by
      match cs,h2 with
      | a :: b :: c :: r,_ => exact ⟨a,b,c,r,rfl⟩
      | [],h2 => cases h2
      | [_],h2 => cases h2
      | [_,_],h2 => cases h2
    simp at h0 h1 h2
    subst h0 h1 h2
    have ih:=AtL.flat (L:=l) (cs:=r) (fun j y hj => by
      have:=h (j + 1) y hj
      rw [show (j + 1) * 3 = j * 3 + 1 + 1 + 1 by omega] at this
      simpa using this)
    rw [List.length_cons,show (l.length + 1) * 3 = l.length * 3 + 1 + 1 + 1 by omega]
    simp [wA,ih]
theorem AtL.put {cs:Array Value} {L:List a2h} (h:AtL cs.toList L) {i:Nat} (hi:i < L.length) (hc:i * 3 + 2 < cs.size) (x:a2h) :
    AtL (((cs.setIfInBounds (i * 3) (.int .i64 x.1)).setIfInBounds (i * 3 + 1) (.int .i64 x.2.1)).setIfInBounds (i * 3 + 2) (.string ⟨x.2.2.toArray⟩)).toList (L.set i x):=by
  intro j y hj
  simp only [Array.getElem?_toList,Array.getElem?_setIfInBounds,Array.size_setIfInBounds]
  by_cases hij:i = j
  · subst hij
    rw [List.getElem?_set_self hi] at hj
    cases hj
    refine ⟨?_,?_,?_⟩
    · rw [if_neg (by omega),if_neg (by omega),if_pos rfl,if_pos (by omega)]
    · rw [if_neg (by omega),if_pos rfl,if_pos (by omega)]
    · rw [if_pos rfl,if_pos (by omega)]
  · rw [List.getElem?_set_ne hij] at hj
    obtain ⟨k0,k1,k2⟩:=h j y hj
    rw [Array.getElem?_toList] at k0 k1 k2
    refine ⟨?_,?_,?_⟩
    all_goals rw [if_neg (by omega),if_neg (by omega),if_neg (by omega)]; assumption
theorem AtL.below {cs cs':List Value} {L:List a2h} {i:Nat} (h:AtL cs L) (he:∀ k,k < i * 3 → cs'[k]? = cs[k]?):AtL cs' (L.take i):=by
  intro j x hj
  rw [List.getElem?_take] at hj
  split at hj
  · rename_i hji
    obtain ⟨k0,k1,k2⟩:=h j x hj
    exact ⟨(he _ (by omega)).trans k0,(he _ (by omega)).trans k1,(he _ (by omega)).trans k2⟩
  · cases hj
theorem e7w {eb:TypeId} {Q:Exit → Act → World → Prop} {W0:World} {b n m:Nat} {d:List a2h} {q:a2h → Bool} {caps:Array Value} (hn:n = d.length) (hnm:n ≤ m) (h63:m ≤ maxLen) (hb0:b < W0.heap.size)
    (hq:∀ x ∈ d,∀ (W:World) (cs:Array Value) (L:List a2h),Bt b W0 W → Bx W b eb cs → cs.size = m * 3 → L.length = n → AtL cs.toList L → (∀ y ∈ L,y ∈ d) → Calls Tryz.prog 208 (#[.agg #[.int .i64 x.1,.int .i64 x.2.1,.string ⟨x.2.2.toArray⟩]] ++ caps) W fun e w' => e = .returned (.bool (q x)) ∧ Below W.heap.size W w') :
    ∀ (xs:List a2h) (i j:Nat) (L:List a2h) (cs:Array Value) (a:Act) (W:World),d.drop j = xs → i < j → j ≤ n → L.length = n → L.take i = (d.take j).filter (fun x => !q x) → L.drop j = d.drop j → (∀ y ∈ L,y ∈ d) →
      a.tmps.size = 42 → a.defers = [] → Bt b W0 W → Bx W b eb cs → cs.size = m * 3 → AtL cs.toList L →
      a.eval (.tmp 0) = .slice (some ⟨b,0,none⟩) n m → a.eval (.tmp 1) = .func (.func 208) #[] caps → a.eval (.tmp 5) = .int .i64 i → a.eval (.tmp 6) = .int .i64 j →
      (∀ a' W' i' L' cs',i' < n → L'.length = n → L'.take i' = d.filter (fun x => !q x) → a'.tmps.size = 42 → a'.defers = [] → Bt b W0 W' → Bx W' b eb cs' → cs'.size = m * 3 → AtL cs'.toList L' →
        a'.eval (.tmp 0) = .slice (some ⟨b,0,none⟩) n m → a'.eval (.tmp 5) = .int .i64 i' → Q (.exit 0) a' W') → Code.rounds Tryz.prog bodyD Q (xs.length + 1) a W
  | [],i,j,L,cs,a,W,hd,hij,hjn,hL,ht,hdr,hm,sz,df,hB,hX,hcs,hA,s0,s1,s5,s6,hQ => by
    have hj:d.length ≤ j:=List.drop_eq_nil_iff.1 hd
    rw [rounds_succ]
    unfold bodyD
    refine wp_seq (wp_seq (dg5 a W _ sz df s0 s6 ?_))
    intro a1 F1 e1
    refine wp_cond_split e1 (fun h => ?_) (fun h => ?_)
    · simp only [decide_eq_true_eq] at h; omega
    · refine wp_exit (hQ a1 W i L cs (by omega) hL ?_ F1.sz F1.df hB hX hcs hA (F1.u s0) (F1.u s5))
      rw [ht,List.take_of_length_le hj]
  | x :: xs,i,j,L,cs,a,W,hd,hij,hjn,hL,ht,hdr,hm,sz,df,hB,hX,hcs,hA,s0,s1,s5,s6,hQ => by
    have hj:j < d.length:=by
      rcases Nat.lt_or_ge j d.length with h | h
      · exact h
      · rw [List.drop_eq_nil_iff.2 h] at hd; cases hd
    have hd0:=hd
    rw [List.drop_eq_getElem_cons hj] at hd
    simp only [List.cons.injEq] at hd
    obtain ⟨hx,hd⟩:=hd
    have hxj:d[j]? = some x:=by rw [List.getElem?_eq_getElem hj,hx]
    have hxm:x ∈ d:=List.mem_of_getElem? hxj
    have hxL:L[j]? = some x:=by
      have:=congrArg (fun z:List a2h => z[0]?) (hdr.trans hd0)
      simpa using this
    obtain ⟨c0,c1,c2⟩:=hA j x hxL
    rw [Array.getElem?_toList] at c0 c1 c2
    have tk:(d.take (j + 1)).filter (fun x => !q x) = (d.take j).filter (fun x => !q x) ++ (if q x then [] else [x]):=by
      rw [List.take_add_one,hxj]
      cases hqx:q x <;> simp [hqx]
    have hw:∀ z:Nat,z < n → IntKind.i64.wrap ((z:Int) + 1) = (z:Int) + 1:=by
      intro z hz
      refine b6b ?_
      have:(z:Int) + 1 ≤ 9223372036854775807:=by unfold maxLen at h63; omega
      omega
    rw [List.length_cons,rounds_succ]
    unfold bodyD
    refine wp_seq (wp_seq (dg5 a W _ sz df s0 s6 ?_))
    intro a1 F1 e1
    refine wp_cond_split e1 (fun h => ?_) (fun h => ?_)
    · refine wp_skip ?_
      refine wp_seq (wp_block (wp_seq (dg7 a1 W _ F1.sz F1.df (o:=0) (by rw [hX.cell0]; simpa using c0) (by rw [hX.cell0]; simpa using c1) (by rw [hX.cell0]; simpa using c2) (by omega) (F1.u s0) (F1.u s6) ?_)))
      intro a2 W2 hC hB2 F2 e7
      have F12:=F1.trans F2
      have hX2:=hX.below hB2 hX.lt
      have hBt2:=hB.below hB2
      refine wp_seq (dg8 a2 W2 _ F2.sz F2.df hC (F12.u s1) e7 (hq x hxm W2 cs L hBt2 hX2 hcs hL hA hm) ?_)
      intro a3 W3 hB3 F3 e29
      have F13:=F12.trans F3
      have hX3:=hX2.below hB3 hX2.lt
      have hC3:=hC.below hB3 hC.lt
      have hBt3:=hBt2.below hB3
      have u7:=F3.u e7
      have u0:=F13.u s0
      have u1:=F13.u s1
      have u5:=F13.u s5
      have u6:=F13.u s6
      refine wp_cond_split e29 (fun hqx => ?_) (fun hqx => ?_)
      · have hf:q x = false:=by simpa using hqx
        have hil:i * 3 + 2 < cs.size:=by rw [hcs]; omega
        refine wp_seq (dg9 a3 W3 _ F3.sz F3.df hC3 hX3 hil (by omega) u0 u5 u7 ?_)
        intro a4 F4
        have hX4:=((hX3.setk (i * 3) (.int .i64 x.1)).setk (i * 3 + 1) (.int .i64 x.2.1)).setk (i * 3 + 2) (.string ⟨x.2.2.toArray⟩)
        have hBt4:=((hBt3.setCell (i * 3) (.int .i64 x.1)).setCell (i * 3 + 1) (.int .i64 x.2.1)).setCell (i * 3 + 2) (.string ⟨x.2.2.toArray⟩)
        generalize (((W3.setCell ⟨b,i * 3,none⟩ (.int .i64 x.1)).setCell ⟨b,i * 3 + 1,none⟩ (.int .i64 x.2.1)).setCell ⟨b,i * 3 + 2,none⟩ (.string ⟨x.2.2.toArray⟩)) = W4 at hX4 hBt4 ⊢
        refine f7h a4 W4 _ F4.sz F4.df (hw i (by omega)) (F4.u u5) ?_
        intro a5 F5 e5
        refine dg6 a5 W4 _ F5.sz F5.df (hw j (by omega)) ((F5.same 6 (by decide) (by simp)).trans (F4.u u6)) ?_
        intro a6 F6 e6
        have F46:=(F4.trans F5).trans F6
        refine e7w hn hnm h63 hb0 hq xs (i + 1) (j + 1) (L.set i x) _ a6 W4 hd (by omega) (by omega) (by simpa using hL) ?_ ?_ ?_ F6.sz F6.df hBt4 hX4 (by simpa using hcs) (hA.put (by omega) hil x) (F46.u u0) (F46.u u1) (by rw [F6.same 5 (by decide) (by simp),e5]; simp) (by rw [e6]; simp) hQ
        · rw [tk,hf,← ht,List.take_add_one,List.getElem?_set_self (by omega),List.take_set_of_le (Nat.le_refl _)]
          simp
        · rw [List.drop_set_of_lt (by omega),← List.drop_drop,hdr,List.drop_drop]
        · intro y hy
          rcases List.mem_or_eq_of_mem_set hy with h | rfl
          · exact hm y h
          · exact hxm
      · have hf:q x = true:=by simpa using hqx
        refine wp_skip ?_
        refine dg6 a3 W3 _ F3.sz F3.df (hw j (by omega)) u6 ?_
        intro a6 F6 e6
        refine e7w hn hnm h63 hb0 hq xs i (j + 1) L cs a6 W3 hd (by omega) (by omega) hL ?_ ?_ hm F6.sz F6.df hBt3 hX3 hcs hA (F6.u u0) (F6.u u1) (F6.u u5) (by rw [e6]; simp) hQ
        · rw [tk,hf,ht]; simp
        · rw [← List.drop_drop,hdr,List.drop_drop]
    · simp only [decide_eq_false_iff_not] at h; omega
theorem d3z {q:a2h → Bool}:∀ (d:List a2h) (s:Nat),(ixN q d s = -1 ∧ ∀ x ∈ d,q x = false) ∨ ∃ k,k < d.length ∧ ixN q d s = ((s + k:Nat):Int) ∧ (d.take (k + 1)).filter (fun x => !q x) = d.take k
  | [],s => .inl ⟨rfl,by simp⟩
  | x :: d,s => by
    cases hx:q x with
    | true => exact .inr ⟨0,by simp,by simp [ixN,hx],by simp [hx]⟩
    | false =>
      rcases d3z (q:=q) d (s + 1) with ⟨h1,h2⟩ | ⟨k,h1,h2,h3⟩
      · exact .inl ⟨by simp [ixN,hx,h1],fun y hy => by rcases List.mem_cons.1 hy with rfl | hy; exact hx; exact h2 y hy⟩
      · exact .inr ⟨k + 1,by simpa using h1,by simp only [ixN,hx,Bool.false_eq_true,if_false,h2]; congr 1; omega,by rw [List.take_succ_cons,List.filter_cons,hx]; simp [h3]⟩
end Go.R
end
section
set_option linter.all false
namespace Go.R
open Go Go.Proofs Go.RowKit
set_option maxHeartbeats 4000000
set_option maxRecDepth 100000 in
theorem dg0 (a:Act) (W:World) (Q:Exit → Act → World → Prop) (sz:a.tmps.size = 42) (df:a.defers = [])
    (hK:∀ a',Fr 8 42 [4] a a' → Q .normal a' W):(RD 0).wp Tryz.prog Q a W:=by
  unfold RD opsD Tryz.f207
  simp only [Option.bind_some,a3f,Nat.reduceEqDiff,reduceIte,Option.none_or,Option.or_none,Option.some_or,Option.getD_some,reduceCtorEq]
  refine wp_region_list ?_
  refine a0y rfl (v:=.slice none 0 0) (w':=W) (by simp [go_sem,execOp]) ?_
  dsimp only
  refine hK _ ?_
  repeat refine Fr.put ?_ (by decide)
  exact Fr.rfl' sz df
set_option maxRecDepth 100000 in
theorem f7j (a:Act) (W W2:World) (Q:Exit → Act → World → Prop) (sz:a.tmps.size = 42) (df:a.defers = []) {b n m i:Nat} (hin:i < n) (hnm:n ≤ m)
    (hc:∀ ty,(Builtin.clear_ #[92] ty #[.slice (some ⟨b,i * 3,none⟩) (n - i) (m - i)]).run Tryz.prog W = .ok (.tuple #[]) W2)
    (s0:a.eval (.tmp 0) = .slice (some ⟨b,0,none⟩) n m) (s5:a.eval (.tmp 5) = .int .i64 i)
    (hK:∀ a',Fr 8 42 [] a a' → Q .normal a' W2):(RD 11).wp Tryz.prog Q a W:=by
  unfold RD opsD Tryz.f207
  simp only [Option.bind_some,a3f,Nat.reduceEqDiff,reduceIte,Option.none_or,Option.or_none,Option.some_or,Option.getD_some,reduceCtorEq]
  refine wp_region_list ?_
  have t0:=x9 sz s0
  have t5:=x9 sz s5
  have h1:¬ m = i:=by omega
  have h2:i ≤ n:=by omega
  have h3:i ≤ m:=by omega
  refine a0y rfl (v:=.slice (some ⟨b,0,none⟩) n m) (w':=W) (by simp [go_sem,execOp,a0o,a0n,a1t,sz,t0]) ?_
  refine a0y rfl (v:=.int .i64 i) (w':=W) (by simp [go_sem,execOp,a0o,a0n,a1t,sz,t5]) ?_
  refine a0y rfl (v:=.slice (some ⟨b,i * 3,none⟩) (n - i) (m - i)) (w':=W) (by simp [go_sem,execOp,a0o,a0n,a1t,sz,h1,h2,h3]) ?_
  refine a0y rfl (v:=.tuple #[]) (w':=W2) (by simp [go_sem,execOp,a0o,a0n,a1t,sz,hc]) ?_
  dsimp only
  refine hK _ ?_
  simp only [a6x]
  repeat refine Fr.put ?_ (by decide)
  exact Fr.rfl' sz df
theorem c7w {W0:World} {oc:Option Addr} {n m:Nat} {fv:Value} {R:World → Prop}
    (hidx:Calls Tryz.prog 294 #[.slice oc n m,fv] W0 fun e w' => e = .returned (.int .i64 (-1)) ∧ R w') :
    Calls Tryz.prog 207 #[.slice oc n m,fv] W0 fun e w' => e = .returned (.slice oc n m) ∧ R w':=by
  refine calls_of_wp Tryz.func207 e2x ?_
  refine (fun key => key _ (by rw [show Tryz.f207.ntmps = 42 from rfl]; simp) rfl (by simp [Act.eval]) (by simp [Act.eval])) (?_:∀ a:Act,a.tmps.size = 42 → a.defers = [] → a.eval (.tmp 0) = .slice oc n m → a.eval (.tmp 1) = fv → skelD.wp Tryz.prog _ a W0)
  intro a sz df s0 s1
  unfold skelD
  refine wp_seq (dg0 a W0 _ sz df ?_)
  intro a1 F1
  have v0:=F1.u s0
  refine wp_seq (dg1 a1 W0 _ F1.sz F1.df v0 (F1.u s1) hidx ?_)
  intro a2 w2 hR F2 e5
  refine wp_seq (wp_seq (dg2 a2 w2 _ F2.sz F2.df e5 ?_))
  intro a3 F3 e12
  refine wp_cond_split e12 (fun _ => ?_) (fun h => by simp at h)
  refine wp_seq (dg3 a3 w2 _ F3.sz F3.df ((F3.same 0 (by decide) (by simp)).trans (F2.u v0)) ?_)
  intro a4 F4 e4
  refine wp_ret ?_
  simp only [Exit.then]
  refine bodyPost_ret (results_tmp rfl _ _) F4.df ?_
  exact ⟨congrArg Ending.returned e4,hR⟩
theorem d8b {W0:World} {b n m k:Nat} {d:List a2h} {cs:Array Value} {q:a2h → Bool} {caps:Array Value} {eb:TypeId} (hb:Bx W0 b eb cs) (hcs:cs.size = m * 3) (hn:n = d.length) (hnm:n ≤ m) (h63:m ≤ maxLen) (hA:AtL cs.toList d)
    (hk:k < n) (hkt:(d.take (k + 1)).filter (fun x => !q x) = d.take k)
    (hidx:Calls Tryz.prog 294 #[.slice (some ⟨b,0,none⟩) n m,.func (.func 208) #[] caps] W0 fun e w' => e = .returned (.int .i64 k) ∧ Below W0.heap.size W0 w')
    (hq:∀ x ∈ d,∀ (W:World) (cs:Array Value) (L:List a2h),Bt b W0 W → Bx W b eb cs → cs.size = m * 3 → L.length = n → AtL cs.toList L → (∀ y ∈ L,y ∈ d) → Calls Tryz.prog 208 (#[.agg #[.int .i64 x.1,.int .i64 x.2.1,.string ⟨x.2.2.toArray⟩]] ++ caps) W fun e w' => e = .returned (.bool (q x)) ∧ Below W.heap.size W w') :
    Calls Tryz.prog 207 #[.slice (some ⟨b,0,none⟩) n m,.func (.func 208) #[] caps] W0 fun e w' => ∃ cs',e = .returned (.slice (some ⟨b,0,none⟩) (d.filter fun x => !q x).length m) ∧ Bt b W0 w' ∧ Bx w' b eb cs' ∧ cs'.size = m * 3 ∧ AtL cs'.toList (d.filter fun x => !q x):=by
  refine calls_of_wp Tryz.func207 e2x ?_
  refine (fun key => key _ (by rw [show Tryz.f207.ntmps = 42 from rfl]; simp) rfl (by simp [Act.eval]) (by simp [Act.eval])) (?_:∀ a:Act,a.tmps.size = 42 → a.defers = [] → a.eval (.tmp 0) = .slice (some ⟨b,0,none⟩) n m → a.eval (.tmp 1) = .func (.func 208) #[] caps → skelD.wp Tryz.prog _ a W0)
  intro a sz df s0 s1
  have hw:IntKind.i64.wrap ((k:Int) + 1) = (k:Int) + 1:=by
    refine b6b ?_
    have:(k:Int) + 1 ≤ 9223372036854775807:=by unfold maxLen at h63; omega
    omega
  unfold skelD
  refine wp_seq (dg0 a W0 _ sz df ?_)
  intro a1 F1
  have v0:=F1.u s0
  have v1:=F1.u s1
  refine wp_seq (dg1 a1 W0 _ F1.sz F1.df v0 v1 hidx ?_)
  intro a2 w2 hR F2 e5
  refine wp_seq (wp_seq (dg2 a2 w2 _ F2.sz F2.df e5 ?_))
  intro a3 F3 e12
  refine wp_cond_split e12 (fun h => ?_) (fun h => ?_)
  · simp at h
  have u5:=F3.u e5
  refine wp_skip (wp_seq (wp_seq (dg4 a3 w2 _ F3.sz F3.df hw u5 ?_)))
  intro a4 F4 e6
  have F34:=(F2.trans F3).trans F4
  refine wp_block (wp_loop_rounds _ (e7w hn hnm h63 hb.lt hq (d.drop (k + 1)) k (k + 1) d cs a4 w2 rfl (by omega) (by omega) hn.symm hkt.symm rfl (fun _ h => h) F4.sz F4.df (Bt.of hR) (hb.below hR hb.lt) hcs hA (F34.u v0) (F34.u v1) (F4.u u5) (by rw [e6]; simp) ?_))
  intro a5 w5 i L cs5 hi hL ht sz5 df5 hB5 hX5 hcs5 hA5 x0 x5
  simp only [Exit.inBlock,Exit.then,if_true]
  obtain ⟨i0,hi0,hz0,hz1,hz2⟩:=info_parts f1e
  have hclr:=fun ty => c0c (P:=Tryz.prog) w5 92 ty 101 i0 _ b (i * 3) (n - i) (m - i) _ eb U92 hi0 hz0 (by rw [hz1]; rfl) (by decide) hX5 (by omega) (by rw [hz1,hcs5,← Nat.add_mul]; exact Nat.mul_le_mul_right _ (by omega))
  refine wp_seq (f7j a5 w5 _ _ sz5 df5 hi hnm hclr x0 x5 ?_)
  intro a6 F6
  refine wp_seq (f7i a6 _ _ F6.sz F6.df (by omega) (F6.u x0) (F6.u x5) ?_)
  intro a7 F7 e4
  refine wp_ret (bodyPost_ret (results_tmp rfl _ _) F7.df ?_)
  have hlen:(d.filter fun x => !q x).length = i:=by rw [← ht,List.length_take]; omega
  refine ⟨_,by rw [hlen]; exact congrArg Ending.returned e4,⟨hB5.os,hB5.tape,hB5.output,by simpa [World.setRow] using hB5.size,fun j hj hjb => (setRow_other _ _ _ _ hjb).trans (hB5.block j hj hjb)⟩,setRow_heap _ _ _ _ _ _ hX5,?_,?_⟩
  · simp only [List.size_toArray,List.length_append,List.length_take,List.length_drop,Array.length_toList,size_zeroCells,hz1,hcs5]
    have:=Nat.mul_le_mul_right 3 (show i + (n - i) ≤ m by omega)
    rw [Nat.add_mul] at this
    show min (i * 3) (m * 3) + (n - i) * 3 + (m * 3 - (i * 3 + (n - i) * 3)) = m * 3
    omega
  · rw [← ht]
    refine hA5.below (fun j hj => ?_)
    have hjl:j < cs5.toList.length:=by rw [Array.length_toList,hcs5]; omega
    rw [List.append_assoc,List.getElem?_append_left (by rw [List.length_take]; omega),List.getElem?_take_of_lt hj]
theorem e4g {W0:World} {b n m:Nat} {d:List a2h} {cs:Array Value} {q:a2h → Bool} {caps:Array Value} {eb:TypeId} (hb:Bx W0 b eb cs) (hcs:cs.size = m * 3) (hn:n = d.length) (hnm:n ≤ m) (h63:m ≤ maxLen) (hA:AtL cs.toList d)
    (hq:∀ x ∈ d,∀ (W:World) (cs:Array Value) (L:List a2h),Bt b W0 W → Bx W b eb cs → cs.size = m * 3 → L.length = n → AtL cs.toList L → (∀ y ∈ L,y ∈ d) → Calls Tryz.prog 208 (#[.agg #[.int .i64 x.1,.int .i64 x.2.1,.string ⟨x.2.2.toArray⟩]] ++ caps) W fun e w' => e = .returned (.bool (q x)) ∧ Below W.heap.size W w') :
    Calls Tryz.prog 207 #[.slice (some ⟨b,0,none⟩) n m,.func (.func 208) #[] caps] W0 fun e w' => ∃ cs',e = .returned (.slice (some ⟨b,0,none⟩) (d.filter fun x => !q x).length m) ∧ Bt b W0 w' ∧ Bx w' b eb cs' ∧ cs'.size = m * 3 ∧ AtL cs'.toList (d.filter fun x => !q x):=by
  have hidx:=d8a (W0:=W0) (oc:=some ⟨b,0,none⟩) (n1:=n) (m1:=m) (cs:=d) (q:=q) (caps:=caps) hn (Nat.le_trans hnm h63) (fun j x hj => by
    obtain ⟨k0,k1,k2⟩:=hA j x hj
    rw [Array.getElem?_toList] at k0 k1 k2
    exact ⟨b,0,rfl,hb.lt,by rw [hb.cell0]; simpa using k0,by rw [hb.cell0]; simpa using k1,by rw [hb.cell0]; simpa using k2⟩)
    (fun x hx W hW => hq x hx W cs d (Bt.of hW) (hb.below hW hb.lt) hcs hn.symm hA (fun _ h => h))
  rcases d3z (q:=q) d 0 with ⟨h1,h2⟩ | ⟨k,h1,h2,h3⟩
  · rw [h1] at hidx
    refine (c7w hidx).mono ?_
    rintro e w' ⟨rfl,hB⟩
    have hf:(d.filter fun x => !q x) = d:=List.filter_eq_self.2 (fun x hx => by rw [h2 x hx]; rfl)
    rw [hf,← hn]
    exact ⟨cs,rfl,Bt.of hB,hb.below hB hb.lt,hcs,hA⟩
  · rw [h2,Nat.zero_add] at hidx
    exact d8b hb hcs hn hnm h63 hA (by omega) h3 hidx hq
end Go.R
end
section
set_option linter.all false
namespace Go.R
open Go Go.Proofs Go.RowKit
set_option maxRecDepth 100000
set_option maxHeartbeats 4000000
theorem pg7 (a:Act) (W:World) (Q:Exit → Act → World → Prop) (sz:a.tmps.size = 113) (df:a.defers = []) {g og n m i x1 x2 y1 y2:Nat} {x0 y0:Option Addr} {nm:ByteArray} {rt:Bool}
     (d0:W.cell? ⟨g,og + i * 4,none⟩ = some (.string nm)) (d1:W.cell? ⟨g,og + i * 4 + 1,none⟩ = some (.slice x0 x1 x2)) (d2:W.cell? ⟨g,og + i * 4 + 2,none⟩ = some (.slice y0 y1 y2)) (d3:W.cell? ⟨g,og + i * 4 + 3,none⟩ = some (.bool rt)) (h1:(i:Int) < (n:Int))
    (s21:a.eval (.tmp 21) = .slice (some ⟨g,og,none⟩) n m) (s23:a.eval (.tmp 23) = .int .i64 i)
    (hK:∀ a' W',Fr 113 113 [7,8,25,26,27] a a' → a'.eval (.tmp 7) = .int .i64 i → a'.eval (.tmp 8) = .pointer (some ⟨W.heap.size,0,none⟩) → Bx W' W.heap.size 44 #[.string nm,.slice x0 x1 x2,.slice y0 y1 y2,.bool rt] → Below W.heap.size W W' → Q .normal a' W'):(Code.region 7 (opsG 7) false).wp Tryz.prog Q a W:=by
  refine rgl ?_
  have t21:=x9 sz s21
  have t23:=x9 sz s23
  refine wv (.int .i64 i) ?_
  refine wv (.pointer (some ⟨g,og + i * 4,none⟩)) ?_
  refine wv (.agg #[.string nm,.slice x0 x1 x2,.slice y0 y1 y2,.bool rt]) ?_
  refine a0y rfl (v:=.pointer (some ⟨W.heap.size,0,none⟩)) (w':=W.alloc (.cells #[.string ⟨#[]⟩,.slice none 0 0,.slice none 0 0,.bool false] 44)) (by simp [go_sem,execOp,sz]) ?_
  have hB:=Bx.new W 44 #[.string ⟨#[]⟩,.slice none 0 0,.slice none 0 0,.bool false]
  have hBl:=(Below.refl W.heap.size W).alloc (Nat.le_refl _) (.cells #[.string ⟨#[]⟩,.slice none 0 0,.slice none 0 0,.bool false] 44)
  generalize (W.alloc (.cells #[.string ⟨#[]⟩,.slice none 0 0,.slice none 0 0,.bool false] 44)) = W1 at hB hBl ⊢
  generalize hN:W.heap.size = N at hB hBl hK ⊢
  have g0:=hB.setk 0 (.string nm)
  have g1:=g0.setk 1 (.slice x0 x1 x2)
  have g2:=g1.setk 2 (.slice y0 y1 y2)
  have g3:=g2.setk 3 (.bool rt)
  refine wv (.int .i64 i) ?_
  refine b0e rfl (w':=((((W1.setCell ⟨N,0,none⟩ (.string nm)).setCell ⟨N,1,none⟩ (.slice x0 x1 x2)).setCell ⟨N,2,none⟩ (.slice y0 y1 y2)).setCell ⟨N,3,none⟩ (.bool rt))) (by simp [go_sem,execOp,a0o,a0n,a1t,sz,hB.cell0,hB.frozen,g0.cell0,g0.frozen,g1.cell0,g1.frozen,g2.cell0,g2.frozen]) ?_
  dsimp only
  simp only [a6x]
  refine hK _ _ ?_ ?_ ?_ (by simpa using g3) ((((hBl.setCell (p:=⟨N,0,none⟩) (Nat.le_refl _) _).setCell (p:=⟨N,1,none⟩) (Nat.le_refl _) _).setCell (p:=⟨N,2,none⟩) (Nat.le_refl _) _).setCell (p:=⟨N,3,none⟩) (Nat.le_refl _) _)
  · exact fP
  · exact sP
  · exact sP
theorem f7k (a:Act) (W:World) (Q:Exit → Act → World → Prop) (sz:a.tmps.size = 113) (df:a.defers = []) {g og n m i x1 x2 y1 y2:Nat} {x0 y0:Option Addr} {nm:ByteArray} {rt:Bool}
     (d0:W.cell? ⟨g,og + i * 4,none⟩ = some (.string nm)) (d1:W.cell? ⟨g,og + i * 4 + 1,none⟩ = some (.slice x0 x1 x2)) (d2:W.cell? ⟨g,og + i * 4 + 2,none⟩ = some (.slice y0 y1 y2)) (d3:W.cell? ⟨g,og + i * 4 + 3,none⟩ = some (.bool rt)) (h1:(i:Int) < (n:Int))
    (s66:a.eval (.tmp 66) = .slice (some ⟨g,og,none⟩) n m) (s68:a.eval (.tmp 68) = .int .i64 i)
    (hK:∀ a' W',Fr 113 113 [11,12,70,71,72] a a' → a'.eval (.tmp 11) = .int .i64 i → a'.eval (.tmp 12) = .pointer (some ⟨W.heap.size,0,none⟩) → Bx W' W.heap.size 44 #[.string nm,.slice x0 x1 x2,.slice y0 y1 y2,.bool rt] → Below W.heap.size W W' → Q .normal a' W'):(Code.region 17 (opsG 17) false).wp Tryz.prog Q a W:=by
  refine rgl ?_
  have t66:=x9 sz s66
  have t68:=x9 sz s68
  refine wv (.int .i64 i) ?_
  refine wv (.pointer (some ⟨g,og + i * 4,none⟩)) ?_
  refine wv (.agg #[.string nm,.slice x0 x1 x2,.slice y0 y1 y2,.bool rt]) ?_
  refine a0y rfl (v:=.pointer (some ⟨W.heap.size,0,none⟩)) (w':=W.alloc (.cells #[.string ⟨#[]⟩,.slice none 0 0,.slice none 0 0,.bool false] 44)) (by simp [go_sem,execOp,sz]) ?_
  have hB:=Bx.new W 44 #[.string ⟨#[]⟩,.slice none 0 0,.slice none 0 0,.bool false]
  have hBl:=(Below.refl W.heap.size W).alloc (Nat.le_refl _) (.cells #[.string ⟨#[]⟩,.slice none 0 0,.slice none 0 0,.bool false] 44)
  generalize (W.alloc (.cells #[.string ⟨#[]⟩,.slice none 0 0,.slice none 0 0,.bool false] 44)) = W1 at hB hBl ⊢
  generalize hN:W.heap.size = N at hB hBl hK ⊢
  have g0:=hB.setk 0 (.string nm)
  have g1:=g0.setk 1 (.slice x0 x1 x2)
  have g2:=g1.setk 2 (.slice y0 y1 y2)
  have g3:=g2.setk 3 (.bool rt)
  refine wv (.int .i64 i) ?_
  refine b0e rfl (w':=((((W1.setCell ⟨N,0,none⟩ (.string nm)).setCell ⟨N,1,none⟩ (.slice x0 x1 x2)).setCell ⟨N,2,none⟩ (.slice y0 y1 y2)).setCell ⟨N,3,none⟩ (.bool rt))) (by simp [go_sem,execOp,a0o,a0n,a1t,sz,hB.cell0,hB.frozen,g0.cell0,g0.frozen,g1.cell0,g1.frozen,g2.cell0,g2.frozen]) ?_
  dsimp only
  simp only [a6x]
  refine hK _ _ ?_ ?_ ?_ (by simpa using g3) ((((hBl.setCell (p:=⟨N,0,none⟩) (Nat.le_refl _) _).setCell (p:=⟨N,1,none⟩) (Nat.le_refl _) _).setCell (p:=⟨N,2,none⟩) (Nat.le_refl _) _).setCell (p:=⟨N,3,none⟩) (Nat.le_refl _) _)
  · exact fP
  · exact sP
  · exact sP
theorem f7l (a:Act) (W:World) (Q:Exit → Act → World → Prop) (sz:a.tmps.size = 113) (df:a.defers = []) {g n m i x1 x2:Nat} {x0:Option Addr} {id:Int}
     (d0:W.cell? ⟨g,i * 2,none⟩ = some (.int .i64 id)) (d1:W.cell? ⟨g,i * 2 + 1,none⟩ = some (.slice x0 x1 x2)) (h1:(i:Int) < (n:Int))
    (s33:a.eval (.tmp 33) = .slice (some ⟨g,0,none⟩) n m) (s35:a.eval (.tmp 35) = .int .i64 i)
    (hK:∀ a' W',Fr 113 113 [10,37,38] a a' → a'.eval (.tmp 10) = .pointer (some ⟨W.heap.size,0,none⟩) → Bx W' W.heap.size 39 #[.int .i64 id,.slice x0 x1 x2] → Below W.heap.size W W' → Q .normal a' W'):(Code.region 10 (opsG 10) false).wp Tryz.prog Q a W:=by
  refine rgl ?_
  have t33:=x9 sz s33
  have t35:=x9 sz s35
  refine wv (.pointer (some ⟨g,i * 2,none⟩)) ?_
  refine wv (.agg #[.int .i64 id,.slice x0 x1 x2]) ?_
  refine a0y rfl (v:=.pointer (some ⟨W.heap.size,0,none⟩)) (w':=W.alloc (.cells #[.int .i64 0,.slice none 0 0] 39)) (by simp [go_sem,execOp,sz]) ?_
  have hB:=Bx.new W 39 #[.int .i64 0,.slice none 0 0]
  have hBl:=(Below.refl W.heap.size W).alloc (Nat.le_refl _) (.cells #[.int .i64 0,.slice none 0 0] 39)
  generalize (W.alloc (.cells #[.int .i64 0,.slice none 0 0] 39)) = W1 at hB hBl ⊢
  generalize hN:W.heap.size = N at hB hBl hK ⊢
  have g0:=hB.setk 0 (.int .i64 id)
  have g1:=g0.setk 1 (.slice x0 x1 x2)
  refine b0e rfl (w':=((W1.setCell ⟨N,0,none⟩ (.int .i64 id)).setCell ⟨N,1,none⟩ (.slice x0 x1 x2))) (by simp [go_sem,execOp,a0o,a0n,a1t,sz,hB.cell0,hB.frozen,g0.cell0,g0.frozen]) ?_
  dsimp only
  simp only [a6x]
  refine hK _ _ ?_ ?_ (by simpa using g1) ((hBl.setCell (p:=⟨N,0,none⟩) (Nat.le_refl _) _).setCell (p:=⟨N,1,none⟩) (Nat.le_refl _) _)
  · exact fP
  · exact sP
theorem f7m (a:Act) (W:World) (Q:Exit → Act → World → Prop) (sz:a.tmps.size = 113) (df:a.defers = []) {g n m i x1 x2:Nat} {x0:Option Addr} {id:Int}
     (d0:W.cell? ⟨g,i * 2,none⟩ = some (.int .i64 id)) (d1:W.cell? ⟨g,i * 2 + 1,none⟩ = some (.slice x0 x1 x2)) (h1:(i:Int) < (n:Int))
    (s92:a.eval (.tmp 92) = .slice (some ⟨g,0,none⟩) n m) (s94:a.eval (.tmp 94) = .int .i64 i)
    (hK:∀ a' W',Fr 113 113 [16,96,97] a a' → a'.eval (.tmp 16) = .pointer (some ⟨W.heap.size,0,none⟩) → Bx W' W.heap.size 39 #[.int .i64 id,.slice x0 x1 x2] → Below W.heap.size W W' → Q .normal a' W'):(Code.region 24 (opsG 24) false).wp Tryz.prog Q a W:=by
  refine rgl ?_
  have t92:=x9 sz s92
  have t94:=x9 sz s94
  refine wv (.pointer (some ⟨g,i * 2,none⟩)) ?_
  refine wv (.agg #[.int .i64 id,.slice x0 x1 x2]) ?_
  refine a0y rfl (v:=.pointer (some ⟨W.heap.size,0,none⟩)) (w':=W.alloc (.cells #[.int .i64 0,.slice none 0 0] 39)) (by simp [go_sem,execOp,sz]) ?_
  have hB:=Bx.new W 39 #[.int .i64 0,.slice none 0 0]
  have hBl:=(Below.refl W.heap.size W).alloc (Nat.le_refl _) (.cells #[.int .i64 0,.slice none 0 0] 39)
  generalize (W.alloc (.cells #[.int .i64 0,.slice none 0 0] 39)) = W1 at hB hBl ⊢
  generalize hN:W.heap.size = N at hB hBl hK ⊢
  have g0:=hB.setk 0 (.int .i64 id)
  have g1:=g0.setk 1 (.slice x0 x1 x2)
  refine b0e rfl (w':=((W1.setCell ⟨N,0,none⟩ (.int .i64 id)).setCell ⟨N,1,none⟩ (.slice x0 x1 x2))) (by simp [go_sem,execOp,a0o,a0n,a1t,sz,hB.cell0,hB.frozen,g0.cell0,g0.frozen]) ?_
  dsimp only
  simp only [a6x]
  refine hK _ _ ?_ ?_ (by simpa using g1) ((hBl.setCell (p:=⟨N,0,none⟩) (Nat.le_refl _) _).setCell (p:=⟨N,1,none⟩) (Nat.le_refl _) _)
  · exact fP
  · exact sP
theorem f7n (a:Act) (W:World) (Q:Exit → Act → World → Prop) (sz:a.tmps.size = 113) (df:a.defers = []) {g og n m i:Nat} {nm rf:ByteArray} {kd q2 q3 q4 q5:Int} {st:Bool}
     (d0:W.cell? ⟨g,og + i * 8,none⟩ = some (.string nm)) (d1:W.cell? ⟨g,og + i * 8 + 1,none⟩ = some (.int .i64 kd)) (d2:W.cell? ⟨g,og + i * 8 + 2,none⟩ = some (.int .i64 q2)) (d3:W.cell? ⟨g,og + i * 8 + 3,none⟩ = some (.int .i64 q3)) (d4:W.cell? ⟨g,og + i * 8 + 4,none⟩ = some (.int .i64 q4)) (d5:W.cell? ⟨g,og + i * 8 + 5,none⟩ = some (.int .i64 q5)) (d6:W.cell? ⟨g,og + i * 8 + 6,none⟩ = some (.string rf)) (d7:W.cell? ⟨g,og + i * 8 + 7,none⟩ = some (.bool st)) (h1:(i:Int) < (n:Int))
    (s74:a.eval (.tmp 74) = .slice (some ⟨g,og,none⟩) n m) (s76:a.eval (.tmp 76) = .int .i64 i)
    (hK:∀ a' W',Fr 113 113 [13,14,78,79,80] a a' → a'.eval (.tmp 13) = .int .i64 i → a'.eval (.tmp 14) = .pointer (some ⟨W.heap.size,0,none⟩) → Bx W' W.heap.size 125 #[.string nm,.int .i64 kd,.int .i64 q2,.int .i64 q3,.int .i64 q4,.int .i64 q5,.string rf,.bool st] → Below W.heap.size W W' → Q .normal a' W'):(Code.region 20 (opsG 20) false).wp Tryz.prog Q a W:=by
  refine rgl ?_
  have t74:=x9 sz s74
  have t76:=x9 sz s76
  refine wv (.int .i64 i) ?_
  refine wv (.pointer (some ⟨g,og + i * 8,none⟩)) ?_
  refine wv (.agg #[.string nm,.int .i64 kd,.int .i64 q2,.int .i64 q3,.int .i64 q4,.int .i64 q5,.string rf,.bool st]) ?_
  refine a0y rfl (v:=.pointer (some ⟨W.heap.size,0,none⟩)) (w':=W.alloc (.cells #[.string ⟨#[]⟩,.int .i64 0,.int .i64 0,.int .i64 0,.int .i64 0,.int .i64 0,.string ⟨#[]⟩,.bool false] 125)) (by simp [go_sem,execOp,sz]) ?_
  have hB:=Bx.new W 125 #[.string ⟨#[]⟩,.int .i64 0,.int .i64 0,.int .i64 0,.int .i64 0,.int .i64 0,.string ⟨#[]⟩,.bool false]
  have hBl:=(Below.refl W.heap.size W).alloc (Nat.le_refl _) (.cells #[.string ⟨#[]⟩,.int .i64 0,.int .i64 0,.int .i64 0,.int .i64 0,.int .i64 0,.string ⟨#[]⟩,.bool false] 125)
  generalize (W.alloc (.cells #[.string ⟨#[]⟩,.int .i64 0,.int .i64 0,.int .i64 0,.int .i64 0,.int .i64 0,.string ⟨#[]⟩,.bool false] 125)) = W1 at hB hBl ⊢
  generalize hN:W.heap.size = N at hB hBl hK ⊢
  have g0:=hB.setk 0 (.string nm)
  have g1:=g0.setk 1 (.int .i64 kd)
  have g2:=g1.setk 2 (.int .i64 q2)
  have g3:=g2.setk 3 (.int .i64 q3)
  have g4:=g3.setk 4 (.int .i64 q4)
  have g5:=g4.setk 5 (.int .i64 q5)
  have g6:=g5.setk 6 (.string rf)
  have g7:=g6.setk 7 (.bool st)
  refine wv (.int .i64 i) ?_
  refine b0e rfl (w':=((((((((W1.setCell ⟨N,0,none⟩ (.string nm)).setCell ⟨N,1,none⟩ (.int .i64 kd)).setCell ⟨N,2,none⟩ (.int .i64 q2)).setCell ⟨N,3,none⟩ (.int .i64 q3)).setCell ⟨N,4,none⟩ (.int .i64 q4)).setCell ⟨N,5,none⟩ (.int .i64 q5)).setCell ⟨N,6,none⟩ (.string rf)).setCell ⟨N,7,none⟩ (.bool st))) (by simp [go_sem,execOp,a0o,a0n,a1t,sz,hB.cell0,hB.frozen,g0.cell0,g0.frozen,g1.cell0,g1.frozen,g2.cell0,g2.frozen,g3.cell0,g3.frozen,g4.cell0,g4.frozen,g5.cell0,g5.frozen,g6.cell0,g6.frozen]) ?_
  dsimp only
  simp only [a6x]
  refine hK _ _ ?_ ?_ ?_ (by simpa using g7) ((((((((hBl.setCell (p:=⟨N,0,none⟩) (Nat.le_refl _) _).setCell (p:=⟨N,1,none⟩) (Nat.le_refl _) _).setCell (p:=⟨N,2,none⟩) (Nat.le_refl _) _).setCell (p:=⟨N,3,none⟩) (Nat.le_refl _) _).setCell (p:=⟨N,4,none⟩) (Nat.le_refl _) _).setCell (p:=⟨N,5,none⟩) (Nat.le_refl _) _).setCell (p:=⟨N,6,none⟩) (Nat.le_refl _) _).setCell (p:=⟨N,7,none⟩) (Nat.le_refl _) _)
  · exact fP
  · exact sP
  · exact sP
theorem pg1 (a:Act) (W:World) (Q:Exit → Act → World → Prop) (sz:a.tmps.size = 113) (df:a.defers = []) {N3:Nat} {p0:Option Addr} {p1 p2:Nat} {nx:Int} {R:Option Addr → Nat → Nat → World → Prop}
    (x0:Bx W N3 29 #[.slice p0 p1 p2,.int .i64 nx]) (s3:a.eval (.tmp 3) = .pointer (some ⟨N3,0,none⟩))
    (hc:Calls Tryz.prog 143 #[.agg #[.slice p0 p1 p2,.int .i64 nx]] W fun e w' => ∃ y0 y1 y2,e = .returned (.agg #[.slice y0 y1 y2,.int .i64 nx]) ∧ R y0 y1 y2 w')
    (hK:∀ a' w' W' y0 y1 y2,R y0 y1 y2 w' → Fr 113 113 [5,17,18] a a' → a'.eval (.tmp 5) = .pointer (some ⟨w'.heap.size,0,none⟩) → Bx W' w'.heap.size 29 #[.slice y0 y1 y2,.int .i64 nx] → Below w'.heap.size w' W' → Q .normal a' W'):(Code.region 1 (opsG 1) false).wp Tryz.prog Q a W:=by
  refine rgl ?_
  have t3:=x9 sz s3
  refine a0y rfl (v:=.agg #[.slice p0 p1 p2,.int .i64 nx]) (w':=W) (by simp [go_sem,execOp,sz,t3,x0.cell0]) ?_
  refine b7n rfl (f:=143) (args:=#[.agg #[.slice p0 p1 p2,.int .i64 nx]]) (by simp [go_sem,execOp,sz,e143]) ?_
  refine hc.mono ?_
  rintro e w' ⟨y0,y1,y2,rfl,hR⟩
  refine ⟨_,rfl,?_⟩
  refine a0y rfl (v:=.pointer (some ⟨w'.heap.size,0,none⟩)) (w':=w'.alloc (.cells #[.slice none 0 0,.int .i64 0] 29)) (by simp [go_sem,execOp,sz]) ?_
  replace hK:=fun a' W' => hK a' w' W' y0 y1 y2 hR
  have hB:=Bx.new w' 29 #[.slice none 0 0,.int .i64 0]
  have hBl:=(Below.refl w'.heap.size w').alloc (Nat.le_refl _) (.cells #[.slice none 0 0,.int .i64 0] 29)
  generalize (w'.alloc (.cells #[.slice none 0 0,.int .i64 0] 29)) = W1 at hB hBl ⊢
  generalize hN:w'.heap.size = N at hB hBl hK ⊢
  have g0:=hB.setk 0 (.slice y0 y1 y2)
  have g1:=g0.setk 1 (.int .i64 nx)
  refine b0e rfl (w':=((W1.setCell ⟨N,0,none⟩ (.slice y0 y1 y2)).setCell ⟨N,1,none⟩ (.int .i64 nx))) (by simp [go_sem,execOp,a0o,a0n,a1t,sz,hB.cell0,hB.frozen,g0.cell0,g0.frozen]) ?_
  dsimp only
  simp only [a6x]
  refine hK _ _ ?_ ?_ (by simpa using g1) ((hBl.setCell (p:=⟨N,0,none⟩) (Nat.le_refl _) _).setCell (p:=⟨N,1,none⟩) (Nat.le_refl _) _)
  · exact fP
  · exact sP
theorem f7o (a:Act) (W:World) (Q:Exit → Act → World → Prop) (sz:a.tmps.size = 113) (df:a.defers = []) {N5 N4:Nat} {p0:Option Addr} {p1 p2:Nat} {nx:Int} {u1 u2:Value}
    (x0:Bx W N5 29 #[.slice p0 p1 p2,.int .i64 nx]) (y0:Bx W N4 29 #[u1,u2])
    (s5:a.eval (.tmp 5) = .pointer (some ⟨N5,0,none⟩)) (s4:a.eval (.tmp 4) = .pointer (some ⟨N4,0,none⟩))
    (hK:∀ a',Fr 113 113 [112] a a' → Q .normal a' ((W.setCell ⟨N4,0,none⟩ (.slice p0 p1 p2)).setCell ⟨N4,1,none⟩ (.int .i64 nx))):(Code.region 29 (opsG 29) false).wp Tryz.prog Q a W:=by
  refine rgl ?_
  have t5:=x9 sz s5
  have t4:=x9 sz s4
  refine a0y rfl (v:=.agg #[.slice p0 p1 p2,.int .i64 nx]) (w':=W) (by simp [go_sem,execOp,sz,t5,x0.cell0]) ?_
  have g1:=y0.setk 0 (.slice p0 p1 p2)
  refine b0e rfl (w':=(W.setCell ⟨N4,0,none⟩ (.slice p0 p1 p2)).setCell ⟨N4,1,none⟩ (.int .i64 nx)) (by simp [go_sem,execOp,sz,t4,y0.cell0,y0.frozen,g1.cell0,g1.frozen]) ?_
  dsimp only
  simp only [a6x]
  refine hK _ ?_
  repeat refine Fr.put ?_ (by decide)
  exact Fr.rfl' sz df
theorem f7p (a:Act) (W:World) (Q:Exit → Act → World → Prop) (sz:a.tmps.size = 113) (df:a.defers = []) {N:Nat} {kd:Int} {st:Bool}
    (c1:W.cell? ⟨N,1,none⟩ = some (.int .i64 kd)) (c7:W.cell? ⟨N,7,none⟩ = some (.bool st)) (s14:a.eval (.tmp 14) = .pointer (some ⟨N,0,none⟩))
    (hK:∀ a',Fr 113 113 [81,82,83,84,85,86,87] a a' → a'.eval (.tmp 87) = .bool (decide (kd ≠ 4) || st) → Q .normal a' W):(Code.region 21 (opsG 21) false).wp Tryz.prog Q a W:=by
  refine rgl ?_
  have t14:=x9 sz s14
  refine wv (.pointer (some ⟨N,1,none⟩)) ?_
  refine wv (.int .i64 kd) ?_
  refine a0y rfl (v:=.bool (decide (kd ≠ 4))) (w':=W) (by simp [go_sem,execOp,sz]; rfl) ?_
  refine wv (.bool (decide (kd ≠ 4))) ?_
  by_cases hk:kd = 4
  · subst hk
    refine b8c (by simp [Region.wanted,yielded,Act.put,sz]) (v:=.pointer (some ⟨N,7,none⟩)) (w':=W) (by simp [go_sem,execOp,sz,t14]) ?_
    refine b8c (by simp [Region.wanted,yielded,Act.put,sz]) (v:=.bool st) (w':=W) (by simp [go_sem,execOp,sz,c7]) ?_
    refine wv (.bool st) ?_
    dsimp only
    refine hK _ ?_ ?_
    · exact fP
    · exact sP
  · refine c5b (by simp [Region.wanted,yielded,Act.put,sz,hk]) ?_
    refine c5b (by simp [Region.wanted,yielded,Act.put,sz,hk]) ?_
    refine wv (.bool true) ?_
    dsimp only
    refine hK _ ?_ ?_
    · exact fP
    · simp [a0o,a0n,a1t,sz,hk]
theorem e80 (args:Array Value) (w:World):(callFunc 80 args).run Tryz.prog w = .ok (.enter 80 args) w:=enters_of Tryz.func80 (by kernel_rfl) rfl _ _
theorem d5f {ops:Array Oper} {a:Act} {o:Oper} {j t:Nat} {b c:Bool} (hg:o.guard = some (j,c)) (hj:(ops[j]?).bind (·.dst) = some t) (he:a.eval (.tmp t) = .bool b):Region.wanted o (yielded ops a.tmps) = (b == c):=by
  have h2:a.tmps[t]? = some (.bool b):=by
    cases h:a.tmps[t]? with
    | none => simp [Act.eval,h,undef] at he
    | some v => simp [Act.eval,h] at he; rw [he]
  simp only [Region.wanted,hg,yielded,hj,Option.bind_some,h2]
  cases b <;> cases c <;> rfl
section
variable {P:Program} {ops:Array Oper} {Q:Exit → Act → World → Prop} {a A:Act} {w w':World} {l:List Oper} {o:Oper} {v:Value} {j t d k N:Nat} {ws:List Nat} {b c:Bool}
theorem c3u (F:Fr k N ws a A) (he:A.eval (.tmp t) = .bool b) (hg:o.guard = some (j,c)) (hj:(ops[j]?).bind (·.dst) = some t) (hbc:(b == c) = false) (hd:o.dst = some d) (hdw:k ≤ d ∨ d ∈ ws) (hdt:t ≠ d) (h:∀ A',Fr k N ws a A' → A'.eval (.tmp t) = .bool b → wpList P ops Q l A' w):wpList P ops Q (o :: l) A w :=
  c5b ((d5f hg hj he).trans hbc) (by rw [hd]; exact h _ (F.put hdw) ((a0n hdt).trans he))
theorem d4a (F:Fr k N ws a A) (he:A.eval (.tmp t) = .bool b) (hg:o.guard = some (j,b)) (hj:(ops[j]?).bind (·.dst) = some t) (hd:o.dst = some d) (hdw:k ≤ d ∨ d ∈ ws) (hdN:d < N) (hdt:t ≠ d) (hr:(execOp A.eval o).run P w = .ok (.value v) w') (h:∀ A',Fr k N ws a A' → A'.eval (.tmp t) = .bool b → A'.eval (.tmp d) = v → (∀ n,n ≠ d → A'.eval (.tmp n) = A.eval (.tmp n)) → wpList P ops Q l A' w'):wpList P ops Q (o :: l) A w :=
  b8c ((d5f hg hj he).trans (by simp)) hr (by rw [hd]; exact h _ (F.put hdw) ((a0n hdt).trans he) (a0o (by rw [F.sz]; exact hdN)) (fun n hn => a0n hn))
theorem e0t (C:Act → Prop) (hA:C A) (h:∀ x,C x → wpList P ops Q l x w):wpList P ops Q l A w:=h A hA
end
theorem e7x {P:Program} {ops:Array Oper} {Q:Exit → Act → World → Prop} {a:Act} {w:World} {l:List Oper} {o:Oper} {j t:Nat} {b:Bool} (hg:o.guard = some (j,b)) (hj:(ops[j]?).bind (·.dst) = some t) (he:a.eval (.tmp t) = .bool b) {f:Nat} {args:Array Value} (hr:(execOp a.eval o).run P w = .ok (.enter f args) w) (hc:Calls P f args w fun e w' => ∃ v,e = .returned v ∧ wpList P ops Q l (a.put o.dst v) w'):wpList P ops Q (o :: l) a w:=by
  rw [wpList,if_pos ((d5f hg hj he).trans (by simp))]
  left
  unfold Oper.wp
  rw [hr,Oper.upon_enter]
  refine hc.mono ?_
  rintro e w' ⟨v,rfl,h⟩
  exact h
theorem f5c (a:Act) (W:World) (Q:Exit → Act → World → Prop) (sz:a.tmps.size = 113) (df:a.defers = []) {N8:Nat}
    (c8:W.cell? ⟨N8,3,none⟩ = some (.bool true)) (s8:a.eval (.tmp 8) = .pointer (some ⟨N8,0,none⟩))
    (hK:∀ a',Fr 113 113 [39,40,41,42,43,44,45,46,47,48,49,50] a a' → a'.eval (.tmp 50) = .bool false → Q .normal a' W):(Code.region 11 (opsG 11) false).wp Tryz.prog Q a W:=by
  refine rgl ?_
  have t8:=x9 sz s8
  refine wv (.pointer (some ⟨N8,3,none⟩)) ?_
  refine wv (.bool true) ?_
  refine wv (.bool false) ?_
  refine wv (.bool false) ?_
  refine e0t (C:=fun x => Fr 113 113 [39,40,41,42,43,44,45,46,47,48,49,50] a x ∧ x.eval (.tmp 42) = .bool false) ⟨?_,by simp [a0o,a0n,a1t,sz]⟩ ?_
  · exact fP
  rintro a1 ⟨F1,e42⟩
  refine c3u F1 e42 rfl rfl rfl rfl (by decide) (by decide) ?_
  clear e42
  intro a2 F2 e42
  refine c3u F2 e42 rfl rfl rfl rfl (by decide) (by decide) ?_
  clear e42
  intro a3 F3 e42
  refine c3u F3 e42 rfl rfl rfl rfl (by decide) (by decide) ?_
  clear e42
  intro a4 F4 e42
  refine c3u F4 e42 rfl rfl rfl rfl (by decide) (by decide) ?_
  clear e42
  intro a5 F5 e42
  refine c3u F5 e42 rfl rfl rfl rfl (by decide) (by decide) ?_
  clear e42
  intro a6 F6 e42
  refine c3u F6 e42 rfl rfl rfl rfl (by decide) (by decide) ?_
  clear e42
  intro a7 F7 e42
  refine c3u F7 e42 rfl rfl rfl rfl (by decide) (by decide) ?_
  clear e42
  intro a8 F8 e42
  have t42:=x9 F8.sz e42
  refine a0y rfl (v:=.bool false) (w':=W) (by simp [go_sem,execOp,F8.sz,t42]) ?_
  dsimp only
  refine hK _ ?_ ?_
  · repeat refine Fr.put ?_ (by decide)
    exact F8
  · simp [a0o,a0n,a1t,F8.sz]
theorem f5d (a:Act) (W:World) (Q:Exit → Act → World → Prop) (sz:a.tmps.size = 113) (df:a.defers = []) {N2 N5 N8 N10:Nat} {i:Nat} {nx id cnt:Int} {sv v:Value} {R:World → Prop}
    (c8:W.cell? ⟨N8,3,none⟩ = some (.bool false)) (c2:W.cell? ⟨N2,0,none⟩ = some sv) (c5:W.cell? ⟨N5,0,none⟩ = some v) (c51:W.cell? ⟨N5,1,none⟩ = some (.int .i64 nx)) (c10:W.cell? ⟨N10,0,none⟩ = some (.int .i64 id))
    (s2:a.eval (.tmp 2) = .pointer (some ⟨N2,0,none⟩)) (s5:a.eval (.tmp 5) = .pointer (some ⟨N5,0,none⟩)) (s7:a.eval (.tmp 7) = .int .i64 i) (s8:a.eval (.tmp 8) = .pointer (some ⟨N8,0,none⟩)) (s10:a.eval (.tmp 10) = .pointer (some ⟨N10,0,none⟩))
    (hc:Calls Tryz.prog 80 #[.agg #[sv],.agg #[v,.int .i64 nx],.int .i64 i,.int .i64 id] W fun e w' => e = .returned (.int .i64 cnt) ∧ R w')
    (hK:∀ a' w',R w' → Fr 113 113 [39,40,41,42,43,44,45,46,47,48,49,50] a a' → a'.eval (.tmp 50) = .bool (decide (cnt = 0)) → Q .normal a' w'):(Code.region 11 (opsG 11) false).wp Tryz.prog Q a W:=by
  refine rgl ?_
  have t8:=x9 sz s8
  refine wv (.pointer (some ⟨N8,3,none⟩)) ?_
  refine wv (.bool false) ?_
  refine wv (.bool true) ?_
  refine wv (.bool true) ?_
  refine e0t (C:=fun x => Fr 113 113 [39,40,41,42,43,44,45,46,47,48,49,50] a x ∧ x.eval (.tmp 42) = .bool true) ⟨?_,by simp [a0o,a0n,a1t,sz]⟩ ?_
  · exact fP
  rintro a1 ⟨F1,e42⟩
  have u2:=F1.u s2
  have u5:=F1.u s5
  have u7:=F1.u s7
  have u10:=F1.u s10
  have q0:=x9 F1.sz u2
  refine d4a F1 e42 rfl rfl rfl (d:=43) (by decide) (by decide) (by decide) (v:=.agg #[sv]) (w':=W) (by simp [go_sem,execOp,F1.sz,q0,c2]) ?_
  clear e42
  intro a2 F2 e42 u43 g0
  replace u5:=(g0 5 (by decide)).trans u5
  replace u7:=(g0 7 (by decide)).trans u7
  replace u10:=(g0 10 (by decide)).trans u10
  have q1:=x9 F2.sz u5
  refine d4a F2 e42 rfl rfl rfl (d:=44) (by decide) (by decide) (by decide) (v:=.agg #[v,.int .i64 nx]) (w':=W) (by simp [go_sem,execOp,F2.sz,q1,c5,c51]) ?_
  clear e42
  intro a3 F3 e42 u44 g1
  replace u7:=(g1 7 (by decide)).trans u7
  replace u10:=(g1 10 (by decide)).trans u10
  replace u43:=(g1 43 (by decide)).trans u43
  have q2:=x9 F3.sz u7
  refine d4a F3 e42 rfl rfl rfl (d:=45) (by decide) (by decide) (by decide) (v:=.int .i64 i) (w':=W) (by simp [go_sem,execOp,F3.sz,q2]) ?_
  clear e42
  intro a4 F4 e42 u45 g2
  replace u10:=(g2 10 (by decide)).trans u10
  replace u43:=(g2 43 (by decide)).trans u43
  replace u44:=(g2 44 (by decide)).trans u44
  have q3:=x9 F4.sz u10
  refine d4a F4 e42 rfl rfl rfl (d:=46) (by decide) (by decide) (by decide) (v:=.pointer (some ⟨N10,0,none⟩)) (w':=W) (by simp [go_sem,execOp,F4.sz,q3]) ?_
  clear e42
  intro a5 F5 e42 u46 g3
  replace u43:=(g3 43 (by decide)).trans u43
  replace u44:=(g3 44 (by decide)).trans u44
  replace u45:=(g3 45 (by decide)).trans u45
  have q4:=x9 F5.sz u46
  refine d4a F5 e42 rfl rfl rfl (d:=47) (by decide) (by decide) (by decide) (v:=.int .i64 id) (w':=W) (by simp [go_sem,execOp,F5.sz,q4,c10]) ?_
  clear e42
  intro a6 F6 e42 u47 g4
  replace u43:=(g4 43 (by decide)).trans u43
  replace u44:=(g4 44 (by decide)).trans u44
  replace u45:=(g4 45 (by decide)).trans u45
  have r43:=x9 F6.sz u43
  have r44:=x9 F6.sz u44
  have r45:=x9 F6.sz u45
  have r47:=x9 F6.sz u47
  refine e7x rfl rfl (b:=true) e42 (f:=80) (args:=#[.agg #[sv],.agg #[v,.int .i64 nx],.int .i64 i,.int .i64 id]) (by simp [go_sem,execOp,F6.sz,r43,r44,r45,r47,e80]) ?_
  refine hc.mono ?_
  rintro e w' ⟨rfl,hR⟩
  refine ⟨_,rfl,?_⟩
  refine e0t (C:=fun x => Fr 113 113 [39,40,41,42,43,44,45,46,47,48,49,50] a x ∧ x.eval (.tmp 42) = .bool true ∧ x.eval (.tmp 48) = .int .i64 cnt) ⟨F6.put (by decide),(a0n (by decide)).trans e42,a0o (by rw [F6.sz]; decide)⟩ ?_
  clear e42
  rintro a7 ⟨F7,e42,e48⟩
  have t48:=x9 F7.sz e48
  refine d4a F7 e42 rfl rfl rfl (d:=49) (by decide) (by decide) (by decide) (v:=.bool (decide (cnt = 0))) (w':=w') (by simp [go_sem,execOp,F7.sz,t48]; rfl) ?_
  clear e42
  intro a8 F8 e42 e49 _
  have t42:=x9 F8.sz e42
  have t49:=x9 F8.sz e49
  refine a0y rfl (v:=.bool (decide (cnt = 0))) (w':=w') (by simp [go_sem,execOp,F8.sz,t42,t49]) ?_
  dsimp only
  refine hK _ _ hR ?_ ?_
  · repeat refine Fr.put ?_ (by decide)
    exact F8
  · simp [a0o,a0n,a1t,F8.sz]
end Go.R
end
section
set_option linter.all false
namespace Go.R
open Go Go.Proofs Go.RowKit
set_option maxRecDepth 100000
set_option maxHeartbeats 4000000
theorem f7q (args:Array Value) (w:World):(callFunc 151 args).run Tryz.prog w = .ok (.enter 151 args) w:=enters_of Tryz.func151 (by kernel_rfl) rfl _ _
theorem e207 (args:Array Value) (w:World):(callFunc 207 args).run Tryz.prog w = .ok (.enter 207 args) w:=enters_of Tryz.func207 (by kernel_rfl) rfl _ _
theorem f7r (a:Act) (W:World) (Q:Exit → Act → World → Prop) (sz:a.tmps.size = 113) (df:a.defers = []) (hQ:∀ c a (d:Tmp) v w,Q (.panic c) (a.put (some d) v) w → Q (.panic c) a w) {N5 N10 b n0 m0 i:Nat} {id:Int} {tv:Value} {R:Option Addr → Nat → Nat → World → Prop}
    (s5:a.eval (.tmp 5) = .pointer (some ⟨N5,0,none⟩)) (s7:a.eval (.tmp 7) = .int .i64 i) (s10:a.eval (.tmp 10) = .pointer (some ⟨N10,0,none⟩))
    (c0:W.cell? ⟨N5,0,none⟩ = some (.slice (some ⟨b,0,none⟩) n0 m0)) (c10:W.cell? ⟨N10,0,none⟩ = some (.int .i64 id)) (c1:W.cell? ⟨b,i,none⟩ = some tv) (h1:(i:Int) < (n0:Int)) (hb5:b ≠ N5) (hb10:b ≠ N10)
    (hc:Calls Tryz.prog 151 #[tv,.int .i64 id] W.drew fun e w' => ∃ y0 y1 y2,e = .returned (.slice y0 y1 y2) ∧ (w'.cell? ⟨N5,0,none⟩ = some (.slice (some ⟨b,0,none⟩) n0 m0) ∧ w'.cell? ⟨N10,0,none⟩ = some (.int .i64 id)) ∧ (∃ u,w'.cell? ⟨b,i,none⟩ = some u) ∧ w'.frozen? ⟨b,i,none⟩ = false ∧ R y0 y1 y2 w')
    (hK:∀ a' w' y0 y1 y2,R y0 y1 y2 w' → Fr 113 113 [6,51,52,53,54,55,56,57,58,59,60,61,62] a a' → a'.eval (.tmp 6) = .bool true → Q .normal a' (w'.setCell ⟨b,i,none⟩ (.slice y0 y1 y2))):(Code.region 12 (opsG 12) true).wp Tryz.prog Q a W:=by
  have mixed:Tryz.prog.follows .mixedOrders = true:=by kernel_rfl
  unfold opsG Tryz.f111
  simp only [Option.bind_some,a3f,Nat.reduceEqDiff,reduceIte,Option.none_or,Option.or_none,Option.some_or,Option.getD_some,reduceCtorEq]
  have t5:=x9 sz s5
  have t7:=x9 sz s7
  have t10:=x9 sz s10
  refine wp_region_held (S:=fun w' => w'.cell? ⟨N5,0,none⟩ = some (.slice (some ⟨b,0,none⟩) n0 m0) ∧ w'.cell? ⟨N10,0,none⟩ = some (.int .i64 id)) mixed ?_
  change wpAnyH _ _ _ _ _ _ _ _ W.drew
  have hS0:(fun w':World => w'.cell? ⟨N5,0,none⟩ = some (.slice (some ⟨b,0,none⟩) n0 m0) ∧ w'.cell? ⟨N10,0,none⟩ = some (.int .i64 id)) W.drew:=⟨c0,c10⟩
  refine tkx 0 (.pointer (some ⟨N5,0,none⟩)) ?_ hS0
  refine tkx 1 (.slice (some ⟨b,0,none⟩) n0 m0) ?_ hS0
  refine tkx 2 (.int .i64 i) ?_ hS0
  refine tkx 3 (.pointer (some ⟨N5,0,none⟩)) ?_ hS0
  refine a3h (C:=fun x => Fr 113 113 [6,51,52,53,54,55,56,57,58,59,60,61,62] a x ∧ x.eval (.tmp 52) = .slice (some ⟨b,0,none⟩) n0 m0 ∧ x.eval (.tmp 53) = .int .i64 i ∧ x.eval (.tmp 54) = .pointer (some ⟨N5,0,none⟩)) ⟨?_,?_,?_,?_⟩ ?_
  · exact fP
  · exact sP
  · exact sP
  · exact sP
  rintro a1 ⟨F1,e1_52,e1_53,e1_54⟩
  have sz1:=F1.sz
  have w1_52:=x9 sz1 e1_52
  have w1_53:=x9 sz1 e1_53
  have w1_54:=x9 sz1 e1_54
  have w1_7:=x9 sz1 (F1.u s7)
  have w1_10:=x9 sz1 (F1.u s10)
  refine tkx 4 (.slice (some ⟨b,0,none⟩) n0 m0) ?_ hS0
  refine tkx 5 (.int .i64 i) ?_ hS0
  refine tkx 6 (.pointer (some ⟨b,i,none⟩)) ?_ hS0
  refine tkx 8 (.pointer (some ⟨N10,0,none⟩)) ?_ hS0
  refine tkx 9 (.int .i64 id) ?_ hS0
  refine a3h (C:=fun x => Fr 113 113 [6,51,52,53,54,55,56,57,58,59,60,61,62] a x ∧ x.eval (.tmp 52) = .slice (some ⟨b,0,none⟩) n0 m0 ∧ x.eval (.tmp 53) = .int .i64 i ∧ x.eval (.tmp 57) = .pointer (some ⟨b,i,none⟩) ∧ x.eval (.tmp 60) = .int .i64 id) ⟨?_,?_,?_,?_,?_⟩ ?_
  · repeat refine Fr.put ?_ (by decide)
    exact F1
  · simp [a0o,a0n,a1t,F1.sz,e1_52,e1_53,e1_54]
  · simp [a0o,a0n,a1t,F1.sz,e1_52,e1_53,e1_54]
  · simp [a0o,a0n,a1t,F1.sz,e1_52,e1_53,e1_54]
  · simp [a0o,a0n,a1t,F1.sz,e1_52,e1_53,e1_54]
  rintro a2 ⟨F2,e2_52,e2_53,e2_57,e2_60⟩
  have sz2:=F2.sz
  have w2_52:=x9 sz2 e2_52
  have w2_53:=x9 sz2 e2_53
  have w2_57:=x9 sz2 e2_57
  have w2_60:=x9 sz2 e2_60
  refine wpAnyH_all (rs:=[7]) (by kernel_rfl) (by simp) ?_
  intro i hi3
  obtain rfl:i = 7:=by simpa using hi3
  clear hi3
  refine b6x rfl rfl (v:=tv) (w':=W.drew) (by simp [go_sem,execOp,sz2,w2_57,show W.drew.cell? ⟨b,i,none⟩ = some tv from c1]) ⟨hS0,?_⟩
  refine wpAnyH_all (rs:=[10]) (by kernel_rfl) (by simp) ?_
  intro i hi3
  obtain rfl:i = 10:=by simpa using hi3
  clear hi3
  refine b6m rfl (by rfl) (f:=151) (args:=#[tv,.int .i64 id]) (by simp [go_sem,execOp,sz2,w2_60,f7q]) ?_
  refine hc.mono ?_
  rintro e w' ⟨y0,y1,y2,rfl,hS1,⟨u,hu⟩,hfr,hR⟩
  refine ⟨_,rfl,hS1,?_⟩
  refine a3h (C:=fun x => Fr 113 113 [6,51,52,53,54,55,56,57,58,59,60,61,62] a x ∧ x.eval (.tmp 52) = .slice (some ⟨b,0,none⟩) n0 m0 ∧ x.eval (.tmp 53) = .int .i64 i ∧ x.eval (.tmp 61) = .slice y0 y1 y2) ⟨?_,?_,?_,?_⟩ ?_
  · repeat refine Fr.put ?_ (by decide)
    exact F2
  · simp [a0o,a0n,a1t,F2.sz,e2_52,e2_53,e2_57,e2_60]
  · simp [a0o,a0n,a1t,F2.sz,e2_52,e2_53,e2_57,e2_60]
  · simp [a0o,a0n,a1t,F2.sz,e2_52,e2_53,e2_57,e2_60]
  rintro a3 ⟨F3,e3_52,e3_53,e3_61⟩
  have sz3:=F3.sz
  have w3_52:=x9 sz3 e3_52
  have w3_53:=x9 sz3 e3_53
  have w3_61:=x9 sz3 e3_61
  refine tkx 11 (.pointer (some ⟨b,i,none⟩)) ?_ hS1
  refine wpAnyH_all (rs:=[12]) (by kernel_rfl) (by simp) ?_
  intro i hi3
  obtain rfl:i = 12:=by simpa using hi3
  clear hi3
  refine c6u rfl rfl (w':=w'.setCell ⟨b,i,none⟩ (.slice y0 y1 y2)) (by simp [go_sem,execOp,sz3,w3_61,hu,hfr]) ⟨⟨?_,?_⟩,?_⟩
  · rw [World.cell?_setCell_far _ _ _ _ hb5]; exact hS1.1
  · rw [World.cell?_setCell_far _ _ _ _ hb10]; exact hS1.2
  have hS2:(fun w':World => w'.cell? ⟨N5,0,none⟩ = some (.slice (some ⟨b,0,none⟩) n0 m0) ∧ w'.cell? ⟨N10,0,none⟩ = some (.int .i64 id)) (w'.setCell ⟨b,i,none⟩ (.slice y0 y1 y2)):=⟨by show (w'.setCell _ _).cell? _ = _; rw [World.cell?_setCell_far _ _ _ _ hb5]; exact hS1.1,by show (w'.setCell _ _).cell? _ = _; rw [World.cell?_setCell_far _ _ _ _ hb10]; exact hS1.2⟩
  refine tkx 13 (.bool true) ?_ hS2
  refine wpAnyH_done (by kernel_rfl) ?_ _
  refine hK _ _ _ _ _ hR ?_ ?_
  · repeat refine Fr.put ?_ (by decide)
    exact F3
  · simp [a0o,a0n,a1t,sz3]
theorem f7s (a:Act) (W:World) (Q:Exit → Act → World → Prop) (sz:a.tmps.size = 113) (df:a.defers = []) (hQ:∀ c a (d:Tmp) v w,Q (.panic c) (a.put (some d) v) w → Q (.panic c) a w) {N2 N5 NC N16 g n2 m2 k:Nat} {dv:Value} {R:Option Addr → Nat → Nat → World → Prop}
    (s2:a.eval (.tmp 2) = .pointer (some ⟨N2,0,none⟩)) (s5:a.eval (.tmp 5) = .pointer (some ⟨N5,0,none⟩)) (s13:a.eval (.tmp 13) = .int .i64 k) (s14:a.eval (.tmp 14) = .pointer (some ⟨NC,0,none⟩)) (s16:a.eval (.tmp 16) = .pointer (some ⟨N16,0,none⟩))
    (c0:W.cell? ⟨N16,1,none⟩ = some (.slice (some ⟨g,0,none⟩) n2 m2)) (c1:W.cell? ⟨g,k,none⟩ = some dv) (h1:(k:Int) < (n2:Int)) (hg16:g ≠ N16)
    (hc:Calls Tryz.prog 207 #[dv,.func (.func 208) #[] #[.pointer (some ⟨N5,0,none⟩),.pointer (some ⟨N2,0,none⟩),.pointer (some ⟨NC,0,none⟩)]] W.drew fun e w' => ∃ y0 y1 y2,e = .returned (.slice y0 y1 y2) ∧ w'.cell? ⟨N16,1,none⟩ = some (.slice (some ⟨g,0,none⟩) n2 m2) ∧ (∃ u,w'.cell? ⟨g,k,none⟩ = some u) ∧ w'.frozen? ⟨g,k,none⟩ = false ∧ R y0 y1 y2 w')
    (hK:∀ a' w' y0 y1 y2,R y0 y1 y2 w' → Fr 113 113 [98,99,100,101,102,103,104,105,106,107,108] a a' → Q .normal a' (w'.setCell ⟨g,k,none⟩ (.slice y0 y1 y2))):(Code.region 25 (opsG 25) true).wp Tryz.prog Q a W:=by
  have mixed:Tryz.prog.follows .mixedOrders = true:=by kernel_rfl
  unfold opsG Tryz.f111
  simp only [Option.bind_some,a3f,Nat.reduceEqDiff,reduceIte,Option.none_or,Option.or_none,Option.some_or,Option.getD_some,reduceCtorEq]
  have t2:=x9 sz s2
  have t5:=x9 sz s5
  have t13:=x9 sz s13
  have t14:=x9 sz s14
  have t16:=x9 sz s16
  refine wp_region_held (S:=fun w' => w'.cell? ⟨N16,1,none⟩ = some (.slice (some ⟨g,0,none⟩) n2 m2)) mixed ?_
  change wpAnyH _ _ _ _ _ _ _ _ W.drew
  have hS0:(fun w':World => w'.cell? ⟨N16,1,none⟩ = some (.slice (some ⟨g,0,none⟩) n2 m2)) W.drew:=c0
  refine tkx 0 (.pointer (some ⟨N16,1,none⟩)) ?_ hS0
  refine tkx 1 (.slice (some ⟨g,0,none⟩) n2 m2) ?_ hS0
  refine tkx 2 (.int .i64 k) ?_ hS0
  refine tkx 3 (.pointer (some ⟨N16,1,none⟩)) ?_ hS0
  refine a3h (C:=fun x => Fr 113 113 [98,99,100,101,102,103,104,105,106,107,108] a x ∧ x.eval (.tmp 99) = .slice (some ⟨g,0,none⟩) n2 m2 ∧ x.eval (.tmp 100) = .int .i64 k ∧ x.eval (.tmp 101) = .pointer (some ⟨N16,1,none⟩)) ⟨?_,?_,?_,?_⟩ ?_
  · exact fP
  · exact sP
  · exact sP
  · exact sP
  rintro a1 ⟨F1,e1_99,e1_100,e1_101⟩
  have sz1:=F1.sz
  have w1_99:=x9 sz1 e1_99
  have w1_100:=x9 sz1 e1_100
  have w1_101:=x9 sz1 e1_101
  have w1_2:=x9 sz1 (F1.u s2)
  have w1_5:=x9 sz1 (F1.u s5)
  have w1_13:=x9 sz1 (F1.u s13)
  have w1_14:=x9 sz1 (F1.u s14)
  refine tkx 4 (.slice (some ⟨g,0,none⟩) n2 m2) ?_ hS0
  refine tkx 5 (.int .i64 k) ?_ hS0
  refine tkx 6 (.pointer (some ⟨g,k,none⟩)) ?_ hS0
  refine tkx 8 (.func (.func 208) #[] #[.pointer (some ⟨N5,0,none⟩),.pointer (some ⟨N2,0,none⟩),.pointer (some ⟨NC,0,none⟩)]) ?_ hS0
  refine a3h (C:=fun x => Fr 113 113 [98,99,100,101,102,103,104,105,106,107,108] a x ∧ x.eval (.tmp 99) = .slice (some ⟨g,0,none⟩) n2 m2 ∧ x.eval (.tmp 100) = .int .i64 k ∧ x.eval (.tmp 104) = .pointer (some ⟨g,k,none⟩) ∧ x.eval (.tmp 106) = .func (.func 208) #[] #[.pointer (some ⟨N5,0,none⟩),.pointer (some ⟨N2,0,none⟩),.pointer (some ⟨NC,0,none⟩)]) ⟨?_,?_,?_,?_,?_⟩ ?_
  · repeat refine Fr.put ?_ (by decide)
    exact F1
  · simp [a0o,a0n,a1t,F1.sz,e1_99,e1_100,e1_101]
  · simp [a0o,a0n,a1t,F1.sz,e1_99,e1_100,e1_101]
  · simp [a0o,a0n,a1t,F1.sz,e1_99,e1_100,e1_101]
  · simp [a0o,a0n,a1t,F1.sz,e1_99,e1_100,e1_101]
  rintro a2 ⟨F2,e2_99,e2_100,e2_104,e2_106⟩
  have sz2:=F2.sz
  have w2_99:=x9 sz2 e2_99
  have w2_100:=x9 sz2 e2_100
  have w2_104:=x9 sz2 e2_104
  have w2_106:=x9 sz2 e2_106
  refine wpAnyH_all (rs:=[7]) (by kernel_rfl) (by simp) ?_
  intro i hi3
  obtain rfl:i = 7:=by simpa using hi3
  clear hi3
  refine b6x rfl rfl (v:=dv) (w':=W.drew) (by simp [go_sem,execOp,sz2,w2_104,show W.drew.cell? ⟨g,k,none⟩ = some dv from c1]) ⟨hS0,?_⟩
  refine wpAnyH_all (rs:=[9]) (by kernel_rfl) (by simp) ?_
  intro i hi3
  obtain rfl:i = 9:=by simpa using hi3
  clear hi3
  refine b6m rfl (by rfl) (f:=207) (args:=#[dv,.func (.func 208) #[] #[.pointer (some ⟨N5,0,none⟩),.pointer (some ⟨N2,0,none⟩),.pointer (some ⟨NC,0,none⟩)]]) (by simp [go_sem,execOp,sz2,w2_106,e207]) ?_
  refine hc.mono ?_
  rintro e w' ⟨y0,y1,y2,rfl,hS1,⟨u,hu⟩,hfr,hR⟩
  refine ⟨_,rfl,hS1,?_⟩
  refine a3h (C:=fun x => Fr 113 113 [98,99,100,101,102,103,104,105,106,107,108] a x ∧ x.eval (.tmp 99) = .slice (some ⟨g,0,none⟩) n2 m2 ∧ x.eval (.tmp 100) = .int .i64 k ∧ x.eval (.tmp 107) = .slice y0 y1 y2) ⟨?_,?_,?_,?_⟩ ?_
  · repeat refine Fr.put ?_ (by decide)
    exact F2
  · simp [a0o,a0n,a1t,F2.sz,e2_99,e2_100,e2_104,e2_106]
  · simp [a0o,a0n,a1t,F2.sz,e2_99,e2_100,e2_104,e2_106]
  · simp [a0o,a0n,a1t,F2.sz,e2_99,e2_100,e2_104,e2_106]
  rintro a3 ⟨F3,e3_99,e3_100,e3_107⟩
  have sz3:=F3.sz
  have w3_99:=x9 sz3 e3_99
  have w3_100:=x9 sz3 e3_100
  have w3_107:=x9 sz3 e3_107
  refine tkx 10 (.pointer (some ⟨g,k,none⟩)) ?_ hS1
  refine wpAnyH_all (rs:=[11]) (by kernel_rfl) (by simp) ?_
  intro i hi3
  obtain rfl:i = 11:=by simpa using hi3
  clear hi3
  refine c6u rfl rfl (w':=w'.setCell ⟨g,k,none⟩ (.slice y0 y1 y2)) (by simp [go_sem,execOp,sz3,w3_107,hu,hfr]) ⟨?_,?_⟩
  · show (w'.setCell _ _).cell? _ = _
    rw [World.cell?_setCell_far _ _ _ _ hg16]; exact hS1
  refine wpAnyH_done (by kernel_rfl) ?_ _
  refine hK _ _ _ _ _ hR ?_
  repeat refine Fr.put ?_ (by decide)
  exact F3
end Go.R
end
section
set_option linter.all false
namespace Go.R
open Go Go.Proofs Go.RowKit
set_option maxRecDepth 100000
set_option maxHeartbeats 1000000
structure Bs (fp:List Nat) (w w':World):Prop where
  os:w'.os = w.os
  tape:w'.tape = w.tape
  output:w'.output = w.output
  size:w.heap.size ≤ w'.heap.size
  block:∀ k,k < w.heap.size → k ∉ fp → w'.heap[k]? = w.heap[k]?
theorem Bs.below {fp:List Nat} {w w':World} {B:Nat} (h:Bs fp w w') (hB:B ≤ w.heap.size) (hf:∀ q ∈ fp,B ≤ q):Below B w w' :=
  ⟨h.os,h.tape,h.output,h.size,fun k hk => h.block k (by omega) (fun hq => by have:=hf k hq; omega)⟩
theorem f1i {f:Nat} {id:Int} {l l':List AV} (hd:a1l Tryz.prog ⟨true,false,false⟩ f [.own 0 0 l.length,.int .i64 id] [.row 2 l] (.own 1 0 l'.length) [.dead,.row 2 l'])
    {W:World} {v:Value} {fi:List Nat} (h:Rep true W (.lst 2 l) [v] fi) (nd:fi.Nodup) :
    Calls Tryz.prog f #[v,.int .i64 id] W fun e w' => ∃ y0 y1 y2 fi',e = .returned (.slice y0 y1 y2) ∧ Rep true w' (.lst 2 l') [.slice y0 y1 y2] fi' ∧ fi'.Nodup ∧ (∀ q ∈ fi',q ∈ fi ∨ W.heap.size ≤ q) ∧ Bs fi W w':=by
  have hlt:=Rep.lt _ _ _ h
  obtain ⟨C,hCm,hCmd,hCok,hCmm⟩:∃ C:Ctx,(∀ b,C.mine b ↔ (b ∈ fi ∨ W.heap.size ≤ b)) ∧ C.md = ⟨true,false,false⟩ ∧ (∀ b,C.ok b) ∧ C.mm = false :=
    ⟨⟨0,fun _ => True,true,fun b => ¬ (b ∈ fi ∨ W.heap.size ≤ b),false,false⟩,fun b => ⟨fun h => Classical.not_not.1 h.2,fun h => ⟨Nat.zero_le _,fun hn => hn h⟩⟩,rfl,fun _ => trivial,rfl⟩
  have hCd:C.dm = true:=congrArg Md.d hCmd
  have key:∃ (σ:Sg) (φ:Nat → List Nat),o9 C σ φ [.row 2 l] W ∧ RV C σ [.row 2 l] W (.own 0 0 l.length) v ∧ ∀ b,liveAt [.row 2 l] σ b → b ∈ fi:=by
    rw [Rep] at h
    rcases h with ⟨rfl,rfl,a,c,e,h2,h3⟩ | ⟨b,off,cap,cur,e,fz,fps,e1,h2,h3,h4,h5,rfl,h7,h8⟩
    · obtain ⟨rfl,rfl⟩:=h3 rfl
      cases e
      refine ⟨fun _ => none,fun _ => [],⟨?_,?_,?_,?_⟩,?_,?_⟩
      · intro o x ho
        rcases o with _ | o
        · cases ho; exact ⟨by decide,rfl,rfl⟩
        · simp at ho
      · intro o o' x x' b c c' _ _ _ _ h; cases h
      · intro o x b c _ _ h; cases h
      · intro _ o x _ _; exact ⟨List.nodup_nil,by simp,by simp⟩
      · simp only [RV,List.getElem?_cons_zero]
        exact ⟨none,0,rfl,by simp,Nat.zero_le _,Nat.zero_le _,rfl,rfl⟩
      · rintro b ⟨o,x,c,_,_,h⟩; cases h
    · obtain ⟨rfl,rfl,h6⟩:=h5 rfl
      cases e1
      obtain ⟨n1,n2⟩:=List.nodup_cons.1 nd
      have hlive:∀ q,liveAt [.row 2 l] (fun o => if o = 0 then some (b,cap) else none) q → q = b:=by
        rintro q ⟨o,x,c,ho,_,hs⟩
        rcases o with _ | o
        · simp at hs; exact hs.1.symm
        · simp at ho
      refine ⟨fun o => if o = 0 then some (b,cap) else none,fun o => if o = 0 then fps else [],⟨?_,?_,?_,?_⟩,?_,fun q hq => by rw [hlive q hq]; simp⟩
      · intro o x ho
        rcases o with _ | o
        · cases ho
          refine ⟨by decide,?_⟩
          simp only [if_true,hCd]
          exact ⟨h3,cur,e,h4,h6,by simpa using h8,fun q hq => ⟨hCok q,fun hl => n1 (by rw [← hlive q hl]; exact hq)⟩⟩
        · simp at ho
      · intro o o' x x' b c c' ho _ ho' _ _ _
        rcases o with _ | o
        · rcases o' with _ | o'
          · rfl
          · simp at ho'
        · simp at ho
      · intro o x b' c ho _ hs
        rcases o with _ | o
        · simp at hs; exact (hCm b').2 (.inl (by simp [hs.1]))
        · simp at ho
      · intro _ o x ho _
        rcases o with _ | o
        · refine ⟨by simpa using n2,fun q hq => (hCm q).2 (.inl (by simp at hq; simp [hq])),fun o' x' ho' _ hne => ?_⟩
          rcases o' with _ | o'
          · exact absurd rfl hne
          · simp at ho'
        · simp at ho
      · simp only [RV,List.getElem?_cons_zero]
        exact ⟨_,cap,rfl,by omega,h2,h3,by simp⟩
  obtain ⟨σ,φ,hr,hv,hli⟩:=key
  refine (hd C σ φ W [v,.int .i64 id] hCmd (fun h => by rw [hCmm] at h; cases h) (fun b _ => hCok b) (fun b hb => (hCm b).2 (.inr hb)) hr ?_).mono ?_
  · simp only [RVs]
    exact ⟨v,_,rfl,hv,_,[],rfl,by simp [RV],rfl⟩
  · intro e w' he
    cases e with
    | panicked _ => exact he.elim
    | outgrown => exact he.elim
    | returned u =>
      obtain ⟨σ',φ',k1,k2,k3,k4⟩:=he
      have hbs:Bs fi W w':=⟨k4.os,k4.tape,k4.output,k4.size,fun k hk hn => k2.blk k hk (fun hl => hn (hli k hl)) (fun h => by rw [hCmm] at h; cases h)⟩
      have hm:∀ q,C.mine q → q ∈ fi ∨ W.heap.size ≤ q:=fun q hq => (hCm q).1 hq
      simp only [RV,List.getElem?_cons_succ,List.getElem?_cons_zero] at k3
      obtain ⟨a,cap,rfl,j1,j2,j3,j4⟩:=k3
      obtain ⟨h0,hob⟩:=k1.obj 1 _ rfl
      obtain ⟨p1,p2,p3⟩:=k1.deep hCd 1 2 l' rfl
      cases hs:σ' 1 with
      | none =>
        rw [hs] at j4 hob
        obtain ⟨rfl,rfl⟩:=j4
        obtain ⟨rfl,-⟩:=hob
        exact ⟨none,0,0,[],rfl,by rw [Rep]; exact .inl ⟨rfl,rfl,none,0,rfl,by decide,fun _ => ⟨rfl,rfl⟩⟩,List.nodup_nil,by simp,hbs⟩
      | some gc =>
        obtain ⟨g,c⟩:=gc
        rw [hs] at j4 hob
        obtain ⟨-,q2⟩:=j4
        obtain ⟨rfl,rfl⟩:=q2 rfl
        obtain ⟨q3,cur,e,q4,q5,q6,q7⟩:=hob
        rw [hCd] at q6
        have hg:C.mine g:=k1.base 1 _ g cap rfl rfl hs
        refine ⟨_,_,_,g :: φ' 1,rfl,?_,List.nodup_cons.2 ⟨fun hq => (q7 g hq).2 ⟨1,_,cap,rfl,rfl,hs⟩,p1⟩,?_,hbs⟩
        · rw [Rep]
          exact .inr ⟨g,0,cap,cur,e,(0,0),φ' 1,rfl,j2,j3,q4,fun _ => ⟨rfl,rfl,q5⟩,rfl,h0,by simpa using q6⟩
        · intro q hq
          rcases List.mem_cons.1 hq with rfl | hq
          · exact hm _ hg
          · exact hm _ (p2 q hq)
theorem e7y {w:World} {ss:List a7q} {sv:Value} {fs:List Nat} {i:Nat} {s:a7q} (h:Rep false w (.lst 4 (ss.map eTb)) [sv] fs) (hi:ss[i]? = some s) :
    ∃ b os m0 og m1 ou n2 m2 f1,sv = .slice (some ⟨b,os,none⟩) ss.length m0 ∧ b ∈ fs ∧ w.cell? ⟨b,os + i * 4,none⟩ = some (.string ⟨s.nm.toArray⟩) ∧ w.cell? ⟨b,os + i * 4 + 1,none⟩ = some (.slice og s.cols.length m1) ∧ w.cell? ⟨b,os + i * 4 + 2,none⟩ = some (.slice ou n2 m2) ∧ w.cell? ⟨b,os + i * 4 + 3,none⟩ = some (.bool s.root) ∧ Rep false w (.lst 8 (s.cols.map eCol)) [.slice og s.cols.length m1] f1 ∧ (∀ q ∈ f1,q ∈ fs) ∧ s.cols.length ≤ maxLen ∧ ss.length ≤ maxLen:=by
  obtain ⟨b,off,c,cur,e,fz,fx,rfl,k1,k2,k3,k4,k5⟩:=f3p h (k:=i) (x:=eTb s) (by rw [List.getElem?_map,hi]; rfl)
  unfold eTb at k5
  simp only [Rep,a0g] at k5
  obtain ⟨c1,r1,p1,q1,hcs,-,⟨z1,-,-⟩,⟨c2,r2,p2,q2,rfl,-,h2,⟨c3,r3,p3,q3,rfl,-,h3,⟨c4,r4,p4,q4,rfl,-,⟨rfl',rfl⟩,⟨rfl,rfl⟩,rfl⟩,rfl⟩,rfl⟩,rfl⟩:=k5
  have h2':Rep false w (.lst 8 (s.cols.map eCol)) [c2] p2:=by rw [Rep]; exact h2
  have h3':Rep false w (.lst 1 (s.uq.map (AV.int .i64))) [c3] p3:=by rw [Rep]; exact h3
  simp only [List.cons.injEq,and_true] at rfl' z1
  subst rfl' z1
  obtain ⟨o,c',rfl,hl⟩:=a5q h2'
  obtain ⟨o3,c3',rfl,-⟩:=a5q h3'
  rw [List.length_map] at *
  exact ⟨b,off,c,o,c',o3,_,c3',p2,rfl,k3,b7o (j:=0) k2 hcs rfl,b7o k2 hcs rfl,b7o k2 hcs rfl,b7o k2 hcs rfl,h2',fun q hq => k4 q (by simp [hq]),hl,by omega⟩
theorem clone_nil (w:World):Calls Tryz.prog 206 #[.slice none 0 0] w fun e w' => e = .returned (.slice none 0 0) ∧ Below w.heap.size w w':=by
  refine calls_of_wp Tryz.func206 e2w ?_
  refine (fun key => key _ (by rw [show Tryz.f206.ntmps = 8 from rfl]; simp) rfl (by simp [Act.eval])) (?_:∀ a:Act,a.tmps.size = 8 → a.defers = [] → a.eval (.tmp 0) = .slice none 0 0 → skelC.wp Tryz.prog _ a w)
  intro a sz df s0
  have t0:=x9 sz s0
  have hq:Sem.run Tryz.prog (Op.equal 34 (.slice none 0 0) (.slice none 0 0)) w = .ok true w:=by
    have hd:∀ d,Sem.run Tryz.prog (Op.equalIn (d + 1) 34 (.slice none 0 0) (.slice none 0 0)) w = .ok true w:=by
      intro d
      simp [Op.equalIn,run_underlying f3q]
    exact hd 9999
  unfold skelC RC
  unfold opsC Tryz.f206
  simp only [Option.bind_some,a3f,Nat.reduceEqDiff,reduceIte,Option.none_or,Option.or_none,Option.some_or,Option.getD_some,reduceCtorEq]
  refine wp_seq (wp_region_list ?_)
  refine wv (.slice none 0 0) ?_
  refine wp_seq (wp_seq (wp_region_list ?_))
  refine wv (.slice none 0 0) ?_
  refine a0y rfl (v:=.bool true) (w':=w) (by simp [go_sem,execOp,a0o,a0n,a1t,sz,binOp,hq]) ?_
  refine wp_cond_true (by simp [a0o,a0n,a1t,sz]) ?_
  refine wp_seq (wp_region_list ?_)
  refine wv (.slice none 0 0) ?_
  refine wp_ret ?_
  simp only [Exit.then]
  refine bodyPost_ret (results_tmp rfl _ _) df ⟨?_,Below.refl _ _⟩
  simp [Act.put,sz]
end Go.R
end
section
set_option linter.all false
namespace Go.R
open Go Go.Proofs Go.RowKit
set_option maxHeartbeats 1000000
theorem Bs.of {fp:List Nat} {w w':World} (h:Below w.heap.size w w'):Bs fp w w':=⟨h.os,h.tape,h.output,h.size,fun k hk _ => h.block k hk⟩
theorem Bs.trans {fp fp':List Nat} {a b c:World} (h:Bs fp a b) (h':Bs fp' b c) (hs:∀ q ∈ fp',q ∈ fp ∨ a.heap.size ≤ q):Bs fp a c :=
  ⟨h'.os.trans h.os,h'.tape.trans h.tape,h'.output.trans h.output,Nat.le_trans h.size h'.size,fun k hk hn => (h'.block k (Nat.lt_of_lt_of_le hk h.size) (fun hq => by rcases hs k hq with h | h; exact hn h; omega)).trans (h.block k hk hn)⟩
theorem Bs.setCell {fp:List Nat} {w w':World} (h:Bs fp w w') {b:Nat} (hb:b ∈ fp ∨ w.heap.size ≤ b) (o:Nat) (v:Value):Bs fp w (w'.setCell ⟨b,o,none⟩ v) :=
  ⟨h.os,h.tape,h.output,by simpa using h.size,fun k hk hn => (Below.heap_setCell _ _ _ _ (by rintro rfl; rcases hb with hb | hb; exact hn hb; omega)).trans (h.block k hk hn)⟩
theorem Bs.mono {fp fp':List Nat} {w w':World} (h:Bs fp w w') (hs:∀ q ∈ fp,q ∈ fp'):Bs fp' w w':=⟨h.os,h.tape,h.output,h.size,fun k hk hn => h.block k hk (fun hq => hn (hs k hq))⟩
theorem Bs.box {fp:List Nat} {w w':World} {B:Nat} {t:TypeId} {cs:Array Value} (h:Bs fp w w') (hx:Bx w B t cs) (hn:B ∉ fp):Bx w' B t cs:=(h.block B hx.lt hn).trans hx
theorem Bs.cell {fp:List Nat} {w w':World} {p:Addr} (h:Bs fp w w') (hl:p.block < w.heap.size) (hn:p.block ∉ fp):w'.cell? p = w.cell? p:=by
  simp only [World.cell?,h.block _ hl hn]
theorem Bs.rep {fp f:List Nat} {w w':World} {m:Bool} {a:AV} {cs:List Value} (h:Bs fp w w') (hr:Rep m w a cs f) (hn:∀ q ∈ f,q ∉ fp):Rep m w' a cs f :=
  Rep.world _ _ _ (fun q hq => h.block q (Rep.lt _ _ _ hr q hq) (hn q hq)) hr
structure GS (W1:World) (fp1:List Nat) (v:Value) (ts:List (List a0r)) (W:World) (fp:List Nat):Prop where
  bs:Bs fp1 W1 W
  rp:Rep true W (a1s ts) [v] fp
  nd:fp.Nodup
  sub:∀ q ∈ fp,q ∈ fp1 ∨ W1.heap.size ≤ q
theorem GS.start {W:World} {fp:List Nat} {v:Value} {ts:List (List a0r)} (h:Rep true W (a1s ts) [v] fp) (nd:fp.Nodup):GS W fp v ts W fp:=⟨Bs.of (Below.refl _ _),h,nd,fun q hq => .inl hq⟩
theorem GS.step {W1 W W':World} {fp1 fp fp':List Nat} {v:Value} {ts ts':List (List a0r)} (h:GS W1 fp1 v ts W fp) (hb:Bs fp W W') (hr:Rep true W' (a1s ts') [v] fp') (nd:fp'.Nodup) (hs:∀ q ∈ fp',q ∈ fp ∨ W.heap.size ≤ q):GS W1 fp1 v ts' W' fp' :=
  ⟨h.bs.trans hb h.sub,hr,nd,fun q hq => by
    rcases hs q hq with h1 | h1
    · exact h.sub q h1
    · exact .inr (Nat.le_trans h.bs.size h1)⟩
theorem GS.trans {W1 W W':World} {fp1 fp fp':List Nat} {v:Value} {ts ts':List (List a0r)} (h:GS W1 fp1 v ts W fp) (h':GS W fp v ts' W' fp'):GS W1 fp1 v ts' W' fp':=h.step h'.bs h'.rp h'.nd h'.sub
theorem GS.grew {W1 W W':World} {fp1 fp:List Nat} {v:Value} {ts:List (List a0r)} (h:GS W1 fp1 v ts W fp) (hb:Below W.heap.size W W'):GS W1 fp1 v ts W' fp :=
  h.step (Bs.of hb) (Rep.world _ _ _ (fun q hq => hb.block q (Rep.lt _ _ _ h.rp q hq)) h.rp) h.nd (fun q hq => .inl hq)
theorem d5g {w:World} {ts:List (List a0r)} {v:Value} {fp:List Nat} {i:Nat} {t:List a0r} (h:Rep true w (a1s ts) [v] fp) (nd:fp.Nodup) (hi:ts[i]? = some t) :
    ∃ b m0 e cur og m1 fx,v = .slice (some ⟨b,0,none⟩) ts.length m0 ∧ ts.length ≤ maxLen ∧ t.length ≤ maxLen ∧ Bx w b e cur ∧ cur[i]? = some (.slice og t.length m1) ∧ Rep true w (a8n t) [.slice og t.length m1] fx ∧ fx.Nodup ∧ b ∈ fp ∧ b ∉ fx ∧ (∀ q ∈ fx,q ∈ fp) ∧
      ∀ (w':World) (t':List a0r) (v':Value) (f':List Nat),(∀ q ∈ fp,q ∉ fx → q ≠ b → w'.heap[q]? = w.heap[q]?) → Bx w' b e (cur.setIfInBounds i v') → Rep true w' (a8n t') [v'] f' → f'.Nodup → (∀ q ∈ f',q ∈ fx ∨ q ∉ fp) →
        ∃ fp',Rep true w' (a1s (ts.set i t')) [v] fp' ∧ fp'.Nodup ∧ ∀ q ∈ fp',q ∈ fp ∨ q ∈ f':=by
  obtain ⟨b,c,cur,e,fx,rfl,a1,a2,B,a4,a5,a6,a7,a8,a9,a10,a11,put⟩:=c3t h nd (k:=i) (x:=a8n t) (by rw [List.getElem?_map,hi]; rfl)
  obtain ⟨u1,hu1⟩:∃ u,(cur.toList.drop (i * 1)).take 1 = [u]:=by
    match hl:(cur.toList.drop (i * 1)).take 1,a10 with
    | [u],_ => exact ⟨u,rfl⟩
  rw [hu1] at a11
  obtain ⟨k1,k1'⟩:=c0f B hu1
  rw [B.cell0] at k1
  obtain ⟨o,c1,rfl,hl⟩:=a5q a11
  rw [List.length_map] at *
  refine ⟨b,c,e,cur,o,c1,fx,rfl,by omega,hl,B,k1,a11,a9,a6,a7,a8,fun w' t' v' f' hw hB hr hn hd => ?_⟩
  have:=put w' _ (a8n t') f' hB (by simp) (fun j hj => by rw [Array.getElem?_setIfInBounds_ne]; omega) rfl (by
    rw [Nat.mul_one,Array.toList_setIfInBounds,List.drop_eq_getElem_cons (by rw [List.length_set,Array.length_toList]; exact k1')]
    simpa using hr) hw hn hd
  rw [← List.map_set] at this
  exact this
theorem e0u {m:Bool} {w:World} {t:List a0r} {cs:List Value} {fp:List Nat} (h:a0e m w 2 (t.map b0l) cs fp) {j:Nat} {r:a0r} (hj:t[j]? = some r):∃ x0 x1 x2,cs[j * 2]? = some (.int .i64 r.1) ∧ cs[j * 2 + 1]? = some (.slice x0 x1 x2):=by
  obtain ⟨f,r1,-,-⟩:=h.get (i:=j) (a:=b0l r) (by rw [List.getElem?_map,hj]; rfl)
  obtain ⟨v,e1,r2⟩:=d1c r1
  obtain ⟨o,c,rfl,-⟩:=a5q r2
  have h0:=congrArg (fun z:List Value => z[0]?) e1
  have h1:=congrArg (fun z:List Value => z[1]?) e1
  simp [List.getElem?_take_of_lt] at h0 h1
  exact ⟨o,_,c,h0,h1⟩
theorem e7z {W:World} {t:List a0r} {og:Option Addr} {m1:Nat} {fx:List Nat} (h:Rep true W (a8n t) [.slice og t.length m1] fx) (h30:t.length ≤ 1073741824) :
    Calls Tryz.prog 206 #[.slice og t.length m1] W fun e w' => ∃ y0 y1 y2,e = .returned (.slice y0 y1 y2) ∧ y1 = t.length ∧ Below W.heap.size W w' ∧ ∀ j r,t[j]? = some r → ∃ g x0 x1 x2,y0 = some ⟨g,0,none⟩ ∧ W.heap.size ≤ g ∧ g < w'.heap.size ∧ w'.cell? ⟨g,j * 2,none⟩ = some (.int .i64 r.1) ∧ w'.cell? ⟨g,j * 2 + 1,none⟩ = some (.slice x0 x1 x2):=by
  unfold a8n at h
  rw [Rep] at h
  rcases h with ⟨h1,_,a,c,e,_,h3⟩ | ⟨b,off,cap,cur,e,fz,fps,e1,h2,h3,h4,h5,rfl,h7,h8⟩
  · have ht:t = []:=by simpa using h1
    subst ht
    obtain ⟨rfl,rfl⟩:=h3 rfl
    cases e
    refine (clone_nil W).mono ?_
    rintro e w' ⟨rfl,hb⟩
    exact ⟨_,_,_,rfl,rfl,hb,fun j r hj => by simp at hj⟩
  · obtain ⟨rfl,rfl,h6⟩:=h5 rfl
    rw [List.length_map] at e1 h2
    cases e1
    rw [List.drop_zero] at h8
    have hlen:=h8.length
    have h1c:=h8.oneCell
    rw [List.length_map] at hlen h1c
    refine (e0s W b t.length m1 (cur.toList.take (t.length * 2)) h30 (by rw [List.length_take]; omega) ?_ (Array.getElem?_eq_some_iff.1 h4).1 h1c).mono ?_
    · intro j u hj
      rw [List.getElem?_take] at hj
      split at hj
      · rw [Array.getElem?_toList] at hj
        have:(⟨b,0,none⟩:Addr).add j = ⟨b,j,none⟩:=by unfold Addr.add; split <;> simp_all
        rw [this]
        simpa [World.cell?,h4] using hj
      · cases hj
    · rintro e' w' ⟨y0,y1,y2,rfl,own,hb⟩
      rcases own.2 with ⟨ev,hn⟩ | ⟨g,cp,cu,ev,o2,o3,o4,o5,o6,o7⟩
      · cases ev
        exact ⟨_,_,_,rfl,hn.symm,hb,fun j r hj => by rw [List.eq_nil_of_length_eq_zero hn] at hj; simp at hj⟩
      · cases ev
        refine ⟨_,_,_,rfl,rfl,hb,fun j r hj => ?_⟩
        obtain ⟨x0,x1,x2,q0,q1⟩:=e0u h8 hj
        have hjl:j < t.length:=(List.getElem?_eq_some_iff.1 hj).1
        have hc:∀ k,k < t.length * 2 → w'.cell? ⟨g,k,none⟩ = cur.toList[k]?:=by
          intro k hk
          have:=congrArg (fun z:List Value => z[k]?) o7
          simp only [List.getElem?_take_of_lt hk,Array.getElem?_toList] at this
          simp [World.cell?,o3,this]
        exact ⟨g,x0,x1,x2,rfl,o2,(Array.getElem?_eq_some_iff.1 o3).1,(hc _ (by omega)).trans q0,(hc _ (by omega)).trans q1⟩
theorem e0v {w:World} {b o:Nat} {v:Value} (h:w.cell? ⟨b,o,none⟩ = some v):(w.setCell ⟨b,o,none⟩ v).heap[b]? = w.heap[b]?:=by
  simp only [World.cell?] at h
  have hlt:b < w.heap.size:=by
    rcases Nat.lt_or_ge b w.heap.size with h' | h'
    · exact h'
    · rw [Array.getElem?_eq_none h'] at h; cases h
  simp only [World.setCell,Array.getElem?_modify,if_true,Array.getElem?_eq_getElem hlt,Option.map_some]
  rw [Array.getElem?_eq_getElem hlt] at h
  cases hx:w.heap[b] with
  | cells c e f =>
    rw [hx] at h
    simp at h
    simp only [Option.isSome_none,Bool.false_eq_true,if_false]
    congr 2
    apply Array.ext_getElem?
    intro j
    rw [Array.getElem?_setIfInBounds]
    split
    · rename_i hj; subst hj
      split
      · exact h.symm
      · rename_i hj; rw [Array.getElem?_eq_none (by omega)] at h; cases h
    · rfl
  | _ => rfl
theorem e8a {W:World} {d:List a2h} {vc:Value} {fz:List Nat} {q:a2h → Bool} {caps:Array Value} (h:Rep true W (a6o d) [vc] fz)
    (hq:∀ x ∈ d,∀ (W':World) (L:List a2h),Bs fz W W' → Rep true W' (a6o L) [vc] fz → L.length = d.length → (∀ y ∈ L,y ∈ d) → Calls Tryz.prog 208 (#[.agg #[.int .i64 x.1,.int .i64 x.2.1,.string ⟨x.2.2.toArray⟩]] ++ caps) W' fun e w' => e = .returned (.bool (q x)) ∧ Below W'.heap.size W' w') :
    Calls Tryz.prog 207 #[vc,.func (.func 208) #[] caps] W fun e w' => ∃ y0 y1 y2 f3,e = .returned (.slice y0 y1 y2) ∧ Bs fz W w' ∧ Rep true w' (a6o (d.filter fun x => !q x)) [.slice y0 y1 y2] f3 ∧ f3.Nodup ∧ ∀ z ∈ f3,z ∈ fz:=by
  have hmem:=(d7z h)
  unfold a6o at h
  rw [Rep] at h
  rcases h with ⟨h1,rfl,a,c,e,h2,h3⟩ | ⟨b,off,cap,cur,e,fz',fps,e1,h2,h3,h4,h5,rfl,h7,h8⟩
  · have hd:d = []:=by simpa using h1
    subst hd
    obtain ⟨rfl,rfl⟩:=h3 rfl
    cases e
    refine (c7w (d8a (W0:=W) (oc:=none) (n1:=0) (m1:=0) (cs:=[]) (q:=q) (caps:=caps) rfl (by decide) (fun j x hj => by simp at hj) (fun x hx => by cases hx))).mono ?_
    rintro e w' ⟨rfl,hb⟩
    exact ⟨none,0,0,[],rfl,Bs.of hb,by unfold a6o; rw [Rep]; exact .inl ⟨rfl,rfl,none,0,rfl,by decide,fun _ => ⟨rfl,rfl⟩⟩,List.nodup_nil,by simp⟩
  · obtain ⟨rfl,rfl,h6⟩:=h5 rfl
    rw [List.length_map] at e1 h2
    cases e1
    rw [List.drop_zero] at h8
    obtain ⟨rfl,hm,hc⟩:=d1e d _ _ h8
    have hrep:∀ (W':World) (cs:Array Value) (L:List a2h) (n:Nat),Bx W' b e cs → cs.size = cap * 3 → AtL cs.toList L → (∀ y ∈ L,y ∈ d) → n = L.length → n ≤ cap → Rep true W' (a6o L) [.slice (some ⟨b,0,none⟩) n cap] [b]:=by
      intro W' cs L n hB hs hA hL hn hn2
      subst hn
      unfold a6o
      rw [Rep]
      exact .inr ⟨b,0,cap,cs,e,(0,0),[],by rw [List.length_map],by rw [List.length_map]; exact hn2,h3,hB,fun _ => ⟨rfl,rfl,hs⟩,rfl,by decide,by rw [List.drop_zero]; exact d1f L _ (fun y hy => hm y (hL y hy)) hA.flat⟩
    refine (e4g (W0:=W) (b:=b) (n:=d.length) (m:=cap) (d:=d) (cs:=cur) (q:=q) (caps:=caps) (eb:=e) h4 h6 rfl h2 h3 (fun j x hj => d7y hc hj) ?_).mono ?_
    · intro x hx W' cs L hBt hX hcs hL hA hLm
      exact hq x hx W' L ⟨hBt.os,hBt.tape,hBt.output,hBt.size,fun k hk hn => hBt.block k hk (fun hkb => hn (by simp [hkb]))⟩ (hrep W' cs L _ hX hcs hA hLm hL.symm h2) hL hLm
    · rintro e' w' ⟨cs',rfl,hBt,hX,hcs,hA⟩
      exact ⟨_,_,_,[b],rfl,⟨hBt.os,hBt.tape,hBt.output,hBt.size,fun k hk hn => hBt.block k hk (fun hkb => hn (by simp [hkb]))⟩,
        hrep w' cs' _ _ hX hcs hA (fun y hy => (List.mem_filter.1 hy).1) rfl (Nat.le_trans (List.length_filter_le _ _) h2),by simp,by simp⟩
end Go.R
end
section
set_option linter.all false
namespace Go.R
open Go Go.Proofs Go.RowKit
set_option maxRecDepth 100000
set_option maxHeartbeats 1000000
noncomputable def RG (n:Nat):Code:=.region n (opsG n) false
noncomputable def bodyPA:Code:=.seq (RG 9) (.seq (.cond (.tmp 36) .skip (.exit 4)) (.seq (.block 5 (.seq (RG 10) (.seq (RG 11) (.cond (.tmp 50) (.region 12 (opsG 12) true) .skip)))) (RG 13)))
noncomputable def bodyPB:Code:=.seq (RG 6) (.seq (.cond (.tmp 24) .skip (.exit 2)) (.seq (.block 3 (.seq (RG 7) (.seq (RG 8) (.block 4 (.loop bodyPA))))) (RG 14)))
noncomputable def bodyPG:Code:=.seq (.seq (RG 3) (.cond (.tmp 19) .skip (.exit 0))) (.block 1 (.seq (RG 4) (.seq (RG 5) (.block 2 (.loop bodyPB)))))
noncomputable def bodyPR:Code:=.seq (RG 23) (.seq (.cond (.tmp 95) .skip (.exit 10)) (.seq (.block 11 (.seq (RG 24) (.region 25 (opsG 25) true))) (RG 26)))
noncomputable def bodyPC:Code:=.seq (RG 19) (.seq (.cond (.tmp 77) .skip (.exit 8)) (.seq (.block 9 (.seq (RG 20) (.seq (.seq (RG 21) (.cond (.tmp 87) (.exit 9) .skip)) (.seq (RG 22) (.block 10 (.loop bodyPR)))))) (RG 27)))
noncomputable def bodyPI:Code:=.seq (RG 16) (.seq (.cond (.tmp 69) .skip (.exit 6)) (.seq (.block 7 (.seq (RG 17) (.seq (RG 18) (.block 8 (.loop bodyPC))))) (RG 28)))
noncomputable def skelG:Code:=.seq (RG 0) (.seq (RG 1) (.seq (.seq (RG 2) (.block 0 (.loop bodyPG))) (.seq (.seq (RG 15) (.block 6 (.loop bodyPI))) (.seq (RG 29) .ret))))
theorem f1j:Tryz.f111.body = some skelG:=by kernel_rfl
end Go.R
end
section
set_option linter.all false
namespace Go.R
open Go Go.Proofs Go.RowKit
set_option maxHeartbeats 1000000
def c0h (fst:List (List a0r) → Nat → Int → Option Int) (i:Nat) (rt:Bool):List Int → List (List a0r) → Bool → Option (List (List a0r) × Bool)
  | [],ts,g => some (ts,g)
  | id :: ids,ts,g => if rt = true then c0h fst i rt ids ts g else (fst ts i id).bind fun cnt => if cnt = 0 then (ts[i]?).bind fun t => c0h fst i rt ids (ts.set i (t.filter fun r => !(r.1 == id))) true else c0h fst i rt ids ts g
abbrev WA:List Nat:=[6,10] ++ List.range' 35 29
structure PW (W1:World) (fp1:List Nat) (v:Value) (N2 N5:Nat) (sv:Value) (fs:List Nat) (ss:List a7q) (nx:Int):Prop where
  b2:Bx W1 N2 25 #[sv]
  n2:N2 ∉ fp1
  b5:Bx W1 N5 29 #[v,.int .i64 nx]
  n5:N5 ∉ fp1
  rs:Rep false W1 (.lst 4 (ss.map eTb)) [sv] fs
  ns:∀ q ∈ fs,q ∉ fp1
theorem PW.on {W1 W:World} {fp1 fp:List Nat} {v:Value} {N2 N5:Nat} {sv:Value} {fs:List Nat} {ss:List a7q} {nx:Int} {ts:List (List a0r)} (h:PW W1 fp1 v N2 N5 sv fs ss nx) (g:GS W1 fp1 v ts W fp):PW W fp v N2 N5 sv fs ss nx:=by
  have hn:∀ q,q ∉ fp1 → q < W1.heap.size → q ∉ fp:=fun q hq hl hm => by rcases g.sub q hm with h | h; exact hq h; omega
  exact ⟨g.bs.box h.b2 h.n2,hn _ h.n2 h.b2.lt,g.bs.box h.b5 h.n5,hn _ h.n5 h.b5.lt,g.bs.rep h.rs h.ns,fun q hq => hn _ (h.ns q hq) (Rep.lt _ _ _ h.rs q hq)⟩
theorem PW.grew {W W':World} {fp:List Nat} {v:Value} {N2 N5:Nat} {sv:Value} {fs:List Nat} {ss:List a7q} {nx:Int} (h:PW W fp v N2 N5 sv fs ss nx) (hb:Below W.heap.size W W'):PW W' fp v N2 N5 sv fs ss nx :=
  ⟨h.b2.below hb h.b2.lt,h.n2,h.b5.below hb h.b5.lt,h.n5,Rep.world _ _ _ (fun q hq => hb.block q (Rep.lt _ _ _ h.rs q hq)) h.rs,h.ns⟩
theorem e8b {fst:List (List a0r) → Nat → Int → Option Int} {ss:List a7q} {nx:Int} (hst:∀ ts i id n,fst ts i id = some n → a0k Tryz.prog 80 .flat [b3s ss,.agg [a1s ts,.int .i64 nx],.int .i64 i,.int .i64 id] (.int .i64 n))
    {W:World} {fp:List Nat} {v:Value} {N2 N5:Nat} {sv:Value} {fs:List Nat} {ts:List (List a0r)} (h:PW W fp v N2 N5 sv fs ss nx) (hr:Rep true W (a1s ts) [v] fp) {i:Nat} {id n:Int} (hn:fst ts i id = some n) :
    Calls Tryz.prog 80 #[.agg #[sv],.agg #[v,.int .i64 nx],.int .i64 i,.int .i64 id] W fun e w' => e = .returned (.int .i64 n) ∧ Below W.heap.size W w':=by
  refine (hst ts i id n hn W [.agg #[sv],.agg #[v,.int .i64 nx],.int .i64 i,.int .i64 id] (fs ++ (fp ++ ([] ++ ([] ++ [])))) ?_).mono ?_
  · simp only [a0z]
    exact ⟨[sv],_,fs,_,rfl,d5d h.rs,⟨[v,.int .i64 nx],_,fp,_,rfl,(b6n hr).weak',⟨[.int .i64 i],_,[],_,rfl,by simp [Rep],⟨[.int .i64 id],[],[],[],rfl,by simp [Rep],⟨rfl,rfl⟩,rfl⟩,rfl⟩,rfl⟩,rfl⟩
  · intro ev w' hh
    cases ev with
    | returned u =>
      obtain ⟨g1,cs,rfl,gg⟩:=hh
      simp only [Rep] at gg
      obtain ⟨rfl,-⟩:=gg
      exact ⟨rfl,g1⟩
    | panicked _ => exact hh.elim
    | outgrown => exact hh.elim
theorem e8c {Q:Exit → Act → World → Prop} (hP:∀ c a (d:Tmp) v w,Q (.panic c) (a.put (some d) v) w → Q (.panic c) a w) {fst:List (List a0r) → Nat → Int → Option Int} {ss:List a7q} {nx:Int} {i:Nat} {rt:Bool} {r:List (List a0r) × Bool} {W1:World} {fp1 fs:List Nat} {v sv:Value} {N2 N5 N8 n m:Nat} {oc:Option Addr} {ids0:List Int} {x0 y0:Option Addr} {x1 x2 y1 y2:Nat} {nm:ByteArray}
    (hst:∀ ts i id n,fst ts i id = some n → a0k Tryz.prog 80 .flat [b3s ss,.agg [a1s ts,.int .i64 nx],.int .i64 i,.int .i64 id] (.int .i64 n))
    (hdr:∀ (t:List a0r) id,a1l Tryz.prog ⟨true,false,false⟩ 151 [.own 0 0 (t.map b0l).length,.int .i64 id] [.row 2 (t.map b0l)] (.own 1 0 ((t.filter fun r => !(r.1 == id)).map b0l).length) [.dead,.row 2 ((t.filter fun r => !(r.1 == id)).map b0l)])
    (hw1:PW W1 fp1 v N2 N5 sv fs ss nx) (h8:Bx W1 N8 44 #[.string nm,.slice x0 x1 x2,.slice y0 y1 y2,.bool rt]) (n8:N8 ∉ fp1) (hn:n = ids0.length) (hn63:n ≤ maxLen)
    (hcl:∀ j id,ids0[j]? = some id → ∃ g x0 x1 x2,oc = some ⟨g,0,none⟩ ∧ g ∉ fp1 ∧ g < W1.heap.size ∧ W1.cell? ⟨g,j * 2,none⟩ = some (.int .i64 id) ∧ W1.cell? ⟨g,j * 2 + 1,none⟩ = some (.slice x0 x1 x2)) :
    ∀ (xs:List Int) (j:Nat) (ts:List (List a0r)) (g:Bool) (a:Act) (W:World) (fp:List Nat),ids0.drop j = xs → c0h fst i rt xs ts g = some r → a.tmps.size = 113 → a.defers = [] → GS W1 fp1 v ts W fp →
      a.eval (.tmp 2) = .pointer (some ⟨N2,0,none⟩) → a.eval (.tmp 5) = .pointer (some ⟨N5,0,none⟩) → a.eval (.tmp 6) = .bool g → a.eval (.tmp 7) = .int .i64 i → a.eval (.tmp 8) = .pointer (some ⟨N8,0,none⟩) → a.eval (.tmp 33) = .slice oc n m → a.eval (.tmp 34) = .int .i64 n → a.eval (.tmp 35) = .int .i64 j →
      (∀ a' W' fp',Fr 113 113 WA a a' → a'.eval (.tmp 6) = .bool r.2 → GS W1 fp1 v r.1 W' fp' → Q (.exit 4) a' W') → Code.rounds Tryz.prog bodyPA Q (xs.length + 1) a W
  | [],j,ts,g,a,W,fp,hd,hk,sz,df,hg,s2,s5,s6,s7,s8,s33,s34,s35,hQ => by
    have hj:ids0.length ≤ j:=List.drop_eq_nil_iff.1 hd
    rw [rounds_succ]
    unfold bodyPA RG
    refine wp_seq (pg9 a W _ sz df s34 s35 ?_)
    intro a1 F1 e1
    refine wp_seq (wp_cond_split e1 (fun h => ?_) (fun h => ?_))
    · simp only [decide_eq_true_eq] at h; omega
    · simp only [c0h,Option.some.injEq] at hk
      subst hk
      exact wp_exit (hQ a1 W fp (F1.mono (by decide)) (F1.u s6) hg)
  | id :: xs,j,ts,g,a,W,fp,hd,hk,sz,df,hg,s2,s5,s6,s7,s8,s33,s34,s35,hQ => by
    have hj:j < ids0.length:=by
      rcases Nat.lt_or_ge j ids0.length with h | h
      · exact h
      · rw [List.drop_eq_nil_iff.2 h] at hd; cases hd
    rw [List.drop_eq_getElem_cons hj] at hd
    simp only [List.cons.injEq] at hd
    obtain ⟨hx,hd⟩:=hd
    obtain ⟨gC,u0,u1,u2,rfl,hgn,hgl,k0,k1⟩:=hcl j id (by rw [List.getElem?_eq_getElem hj,hx])
    rw [List.length_cons,rounds_succ]
    unfold bodyPA RG
    refine wp_seq (pg9 a W _ sz df s34 s35 ?_)
    intro a1 F1 e1
    refine wp_seq (wp_cond_split e1 (fun h => ?_) (fun h => ?_))
    · refine wp_skip (wp_seq (wp_block (wp_seq (f7l a1 W _ F1.sz F1.df ((hg.bs.cell (p:=⟨gC,j * 2,none⟩) hgl hgn).trans k0) ((hg.bs.cell (p:=⟨gC,j * 2 + 1,none⟩) hgl hgn).trans k1) (by omega) (F1.u s33) (F1.u s35) ?_))))
      intro a2 W2 F2 e10 hX10 hb2
      have F12:=F1.trans F2
      have hg2:=hg.grew hb2
      have hpw2:=hw1.on hg2
      have h82:=hg2.bs.box h8 n8
      have hw:IntKind.i64.wrap ((j:Int) + 1) = (j:Int) + 1:=by
        refine b6b ?_
        have:(j:Int) + 1 ≤ 9223372036854775807:=by unfold maxLen at hn63; omega
        omega
      -- behind the block
      have next:∀ (ts':List (List a0r)) (g':Bool) (fp':List Nat) (a5:Act) (W5:World),c0h fst i rt xs ts' g' = some r → Fr 113 113 WA a a5 → a5.eval (.tmp 35) = .int .i64 j → a5.eval (.tmp 6) = .bool g' → GS W1 fp1 v ts' W5 fp' →
          (Code.region 13 (opsG 13) false).wp Tryz.prog (Exit.then (Code.rounds Tryz.prog bodyPA Q (xs.length + 1)) Q) a5 W5:=by
        intro ts' g' fp' a5 W5 hk' F5 e35 e6 hg5
        refine f6x a5 W5 _ F5.sz F5.df hw e35 ?_
        intro a6 F6 e35'
        have F56:=F5.trans F6
        refine e8c hP hst hdr hw1 h8 n8 hn hn63 hcl xs (j + 1) ts' g' a6 W5 fp' hd hk' F6.sz F6.df hg5 (F56.u s2) (F56.u s5) (F6.u e6) (F56.u s7) (F56.u s8) (F56.u s33) (F56.u s34) (by rw [e35']; simp) ?_
        intro a' W' fp'' F7
        exact hQ a' W' fp'' ((F56.trans F7).mono (by decide))
      have u8:=F12.u s8
      have u2:=F12.u s2
      have u5:=F12.u s5
      have u7:=F12.u s7
      have u6:=F12.u s6
      have u35:=F12.u s35
      simp only [c0h] at hk
      cases rt with
      | true =>
        rw [if_pos rfl] at hk
        refine wp_seq (f5c a2 W2 _ F2.sz F2.df (h82.cell0 3) u8 ?_)
        intro a3 F3 e50
        refine wp_cond_false e50 (wp_skip ?_)
        exact next ts g fp a3 W2 hk ((F12.trans F3).mono (by decide)) (F3.u u35) (F3.u u6) hg2
      | false =>
        rw [if_neg (by simp)] at hk
        cases hc0:fst ts i id with
        | none => rw [hc0] at hk; cases hk
        | some cnt =>
        rw [hc0,Option.bind_some] at hk
        refine wp_seq (f5d a2 W2 _ F2.sz F2.df (h82.cell0 3) (hpw2.b2.cell0 0) (hpw2.b5.cell0 0) (hpw2.b5.cell0 1) (hX10.cell0 0) u2 u5 u7 u8 e10 (e8b hst hpw2 hg2.rp hc0) ?_)
        intro a3 W3 hb3 F3 e50
        have hg3:=hg2.grew hb3
        have hpw3:=hw1.on hg3
        have hX103:=hX10.below hb3 hX10.lt
        have v35:=F3.u u35
        refine wp_cond_split e50 (fun hz => ?_) (fun hz => ?_)
        · simp only [decide_eq_true_eq] at hz
          rw [if_pos hz] at hk
          cases ht:ts[i]? with
          | none => rw [ht] at hk; cases hk
          | some t =>
          rw [ht,Option.bind_some] at hk
          obtain ⟨b,m0,eb,cur,og,m1,fx,rfl,t1,t2,B,hci,hT,ndx,hbf,hbx,hsub,put⟩:=d5g hg3.rp hg3.nd ht
          have hil:i < ts.length:=(List.getElem?_eq_some_iff.1 ht).1
          have hltf:=Rep.lt _ _ _ hg3.rp
          have n10:W.heap.size ∉ fp:=fun hm => by have:=Rep.lt _ _ _ hg.rp _ hm; omega
          have hTd:Rep true W3.drew (.lst 2 (t.map b0l)) [.slice og t.length m1] fx:=Rep.world (w:=W3) _ _ _ (fun _ _ => rfl) hT
          have hcall:=f1i (hdr t id) hTd ndx
          have h51:N5 ∉ fx:=fun hm => hpw3.n5 (hsub _ hm)
          have h10x:W.heap.size ∉ fx:=fun hm => n10 (hsub _ hm)
          refine f7r a3 W3 _ F3.sz F3.df (fun cc aa dd vv ww hh => hP cc aa dd vv ww hh) (R:=fun z0 z1 z2 w' => ∃ fi',Rep true w' (a8n (t.filter fun r => !(r.1 == id))) [.slice z0 z1 z2] fi' ∧ fi'.Nodup ∧ (∀ q ∈ fi',q ∈ fx ∨ W3.heap.size ≤ q) ∧ Bs fx W3 w')
            (F3.u u5) (F3.u u7) (F3.u e10) (hpw3.b5.cell0 0) (hX103.cell0 0) ((B.cell0 i).trans hci) (by omega) (by rintro rfl; exact hpw3.n5 hbf) (by rintro rfl; exact n10 hbf) (hcall.mono ?_) ?_
          · rintro e w' ⟨z0,z1,z2,fi',rfl,q1,q2,q3,q4⟩
            have q4':Bs fx W3 w':=⟨q4.os,q4.tape,q4.output,q4.size,q4.block⟩
            have hbB:Bx w' b eb cur:=q4'.box B hbx
            exact ⟨z0,z1,z2,rfl,⟨(q4'.box hpw3.b5 h51).cell0 0,(q4'.box hX103 h10x).cell0 0⟩,⟨_,(hbB.cell0 i).trans hci⟩,hbB.frozen i,fi',q1,q2,q3,q4'⟩
          · rintro a4 w4 z0 z1 z2 ⟨fi',q1,q2,q3,q4⟩ F4 e6
            have hbB:Bx w4 b eb cur:=q4.box B hbx
            have hne:∀ q,q ≠ b → (w4.setCell ⟨b,i,none⟩ (.slice z0 z1 z2)).heap[q]? = w4.heap[q]?:=fun q hq => Below.heap_setCell _ _ _ _ hq
            obtain ⟨fp',p1,p2,p3⟩:=put (w4.setCell ⟨b,i,none⟩ (.slice z0 z1 z2)) (t.filter fun r => !(r.1 == id)) (.slice z0 z1 z2) fi' (fun q hq hqx hqb => (hne q hqb).trans (q4.block q (hltf q hq) hqx)) (hbB.setk i _)
              (Rep.world _ _ _ (fun q hq => hne q (by
                rintro rfl
                rcases q3 _ hq with h | h
                · exact hbx h
                · have:=hltf _ hbf; omega)) q1) q2 (fun q hq => (q3 q hq).imp (fun h => h) (fun h hm => by have:=hltf q hm; omega))
            have hbs:Bs fp W3 (w4.setCell ⟨b,i,none⟩ (.slice z0 z1 z2)):=(q4.mono hsub).setCell (.inl hbf) _ _
            exact next _ true fp' a4 _ hk ((((F12.trans F3).trans F4)).mono (by decide)) (F4.u v35) e6 (hg3.step hbs p1 p2 (fun q hq => by
              rcases p3 q hq with h | h
              · exact .inl h
              · exact (q3 q h).imp (hsub q) (fun h => h)))
        · simp only [decide_eq_false_iff_not] at hz
          rw [if_neg hz] at hk
          refine wp_skip ?_
          exact next ts g fp a3 W3 hk ((F12.trans F3).mono (by decide)) v35 (F3.u u6) hg3
    · simp only [decide_eq_false_iff_not] at h; omega
end Go.R
end
section
set_option linter.all false
namespace Go.R
open Go Go.Proofs Go.RowKit
set_option maxRecDepth 100000
set_option maxHeartbeats 1000000
def c7x (fst:List (List a0r) → Nat → Int → Option Int):List a7q → Nat → List (List a0r) → Bool → Option (List (List a0r) × Bool)
  | [],_,ts,g => some (ts,g)
  | s :: ss,i,ts,g => (ts[i]?).bind fun t => if t.length ≤ 1073741824 then (c0h fst i s.root (t.map fun r => r.1) ts g).bind fun r => c7x fst ss (i + 1) r.1 r.2 else none
def c5d (fst:List (List a0r) → Nat → Int → Option Int) (ss:List a7q):Nat → List (List a0r) → Bool → Option (List (List a0r))
  | 0,_,_ => none
  | n + 1,ts,g => if g = true then (c7x fst ss 0 ts false).bind fun r => c5d fst ss n r.1 r.2 else some ts
abbrev WB:List Nat:=[6,7,8,10] ++ List.range' 23 42
abbrev WG:List Nat:=List.range' 6 59
theorem e8d {Q:Exit → Act → World → Prop} (hP:∀ c a (d:Tmp) v w,Q (.panic c) (a.put (some d) v) w → Q (.panic c) a w) {fst:List (List a0r) → Nat → Int → Option Int} {ss:List a7q} {nx:Int} {r:List (List a0r) × Bool} {W1:World} {fp1 fs:List Nat} {v:Value} {N2 N5 n m:Nat} {oc:Option Addr}
    (hst:∀ ts i id n,fst ts i id = some n → a0k Tryz.prog 80 .flat [b3s ss,.agg [a1s ts,.int .i64 nx],.int .i64 i,.int .i64 id] (.int .i64 n))
    (hdr:∀ (t:List a0r) id,a1l Tryz.prog ⟨true,false,false⟩ 151 [.own 0 0 (t.map b0l).length,.int .i64 id] [.row 2 (t.map b0l)] (.own 1 0 ((t.filter fun r => !(r.1 == id)).map b0l).length) [.dead,.row 2 ((t.filter fun r => !(r.1 == id)).map b0l)])
    (hw1:PW W1 fp1 v N2 N5 (.slice oc n m) fs ss nx) (hn:n = ss.length) (hn63:n ≤ maxLen) :
    ∀ (xs:List a7q) (i:Nat) (ts:List (List a0r)) (g:Bool) (a:Act) (W:World) (fp:List Nat),ss.drop i = xs → c7x fst xs i ts g = some r → a.tmps.size = 113 → a.defers = [] → GS W1 fp1 v ts W fp →
      a.eval (.tmp 2) = .pointer (some ⟨N2,0,none⟩) → a.eval (.tmp 5) = .pointer (some ⟨N5,0,none⟩) → a.eval (.tmp 6) = .bool g → a.eval (.tmp 21) = .slice oc n m → a.eval (.tmp 22) = .int .i64 n → a.eval (.tmp 23) = .int .i64 i →
      (∀ a' W' fp',Fr 113 113 WB a a' → a'.eval (.tmp 6) = .bool r.2 → GS W1 fp1 v r.1 W' fp' → Q (.exit 2) a' W') → Code.rounds Tryz.prog bodyPB Q (xs.length + 1) a W
  | [],i,ts,g,a,W,fp,hd,hk,sz,df,hg,s2,s5,s6,s21,s22,s23,hQ => by
    have hj:ss.length ≤ i:=List.drop_eq_nil_iff.1 hd
    rw [rounds_succ]
    unfold bodyPB RG
    refine wp_seq (pg6 a W _ sz df s22 s23 ?_)
    intro a1 F1 e1
    refine wp_seq (wp_cond_split e1 (fun h => ?_) (fun h => ?_))
    · simp only [decide_eq_true_eq] at h; omega
    · simp only [c7x,Option.some.injEq] at hk
      subst hk
      exact wp_exit (hQ a1 W fp (F1.mono (by decide)) (F1.u s6) hg)
  | s :: xs,i,ts,g,a,W,fp,hd,hk,sz,df,hg,s2,s5,s6,s21,s22,s23,hQ => by
    have hj:i < ss.length:=by
      rcases Nat.lt_or_ge i ss.length with h | h
      · exact h
      · rw [List.drop_eq_nil_iff.2 h] at hd; cases hd
    rw [List.drop_eq_getElem_cons hj] at hd
    simp only [List.cons.injEq] at hd
    obtain ⟨hx,hd⟩:=hd
    have hsi:ss[i]? = some s:=by rw [List.getElem?_eq_getElem hj,hx]
    simp only [c7x] at hk
    cases ht:ts[i]? with
    | none => rw [ht] at hk; cases hk
    | some t =>
    rw [ht,Option.bind_some] at hk
    split at hk
    · rename_i h30
      cases hA:c0h fst i s.root (t.map fun r => r.1) ts g with
      | none => rw [hA] at hk; cases hk
      | some r1 =>
      rw [hA,Option.bind_some] at hk
      have hpw:=hw1.on hg
      obtain ⟨bs,os,ms,og,m1,ou,n2,m2,f1,hsv,q0,q1,q2,q3,q4,-,-,-,-⟩:=e7y hpw.rs hsi
      simp only [Value.slice.injEq] at hsv
      obtain ⟨rfl,-,rfl⟩:=hsv
      rw [List.length_cons,rounds_succ]
      unfold bodyPB RG
      refine wp_seq (pg6 a W _ sz df s22 s23 ?_)
      intro a1 F1 e1
      refine wp_seq (wp_cond_split e1 (fun h => ?_) (fun h => ?_))
      · refine wp_skip (wp_seq (wp_block (wp_seq (pg7 a1 W _ F1.sz F1.df q1 q2 q3 q4 (by omega) (F1.u s21) (F1.u s23) ?_))))
        intro a2 W2 F2 e7 e8 hX8 hb2
        have F12:=F1.trans F2
        have hg2:=hg.grew hb2
        have hpw2:=hw1.on hg2
        have n8:W.heap.size ∉ fp:=fun hm => by have:=Rep.lt _ _ _ hg.rp _ hm; omega
        obtain ⟨b,m0,eb,cur,og',m1',fx,rfl,t1,t2,B,hci,hT,ndx,hbf,hbx,hsub,-⟩:=d5g hg2.rp hg2.nd ht
        have hil:i < ts.length:=(List.getElem?_eq_some_iff.1 ht).1
        refine wp_seq (pg8 a2 W2 _ F2.sz F2.df (R:=fun z0 z1 z2 w' => z1 = t.length ∧ Below W2.heap.size W2 w' ∧ ∀ j r,t[j]? = some r → ∃ g x0 x1 x2,z0 = some ⟨g,0,none⟩ ∧ W2.heap.size ≤ g ∧ g < w'.heap.size ∧ w'.cell? ⟨g,j * 2,none⟩ = some (.int .i64 r.1) ∧ w'.cell? ⟨g,j * 2 + 1,none⟩ = some (.slice x0 x1 x2))
          (hpw2.b5.cell0 0) ((B.cell0 i).trans hci) (by omega) (F12.u s5) e7 (e7z hT h30) ?_)
        rintro a3 W3 z0 z1 z2 ⟨rfl,hb3,hcl⟩ F3 e33 e34 e35
        have F13:=F12.trans F3
        have hg3:=hg2.grew hb3
        have hpw3:=hw1.on hg3
        have hX83:=hX8.below hb3 hX8.lt
        have hltf:=Rep.lt _ _ _ hg2.rp
        have hl:(t.map fun r => r.1).length = t.length:=List.length_map ..
        rw [← hl] at e33 e34
        refine wp_block (wp_loop_rounds _ (e8c (by intro cc aa dd vv ww hh; exact hP cc aa dd vv ww hh) (r:=r1) hst hdr hpw3 hX83 n8 rfl (by rw [hl]; exact t2) (fun j id hj => ?_) (t.map fun r => r.1) 0 ts g a3 W3 fp rfl hA F3.sz F3.df (GS.start hg3.rp hg3.nd) (F13.u s2) (F13.u s5) (F13.u s6) (F3.u e7) (F3.u e8) e33 e34 e35 ?_))
        · rw [List.getElem?_map,Option.map_eq_some_iff] at hj
          obtain ⟨rr,hrr,rfl⟩:=hj
          obtain ⟨gg,u0,u1,u2,k1,k2,k3,k4,k5⟩:=hcl j rr hrr
          exact ⟨gg,u0,u1,u2,k1,fun hm => by have:=hltf _ hm; omega,k3,k4,k5⟩
        · intro a4 W4 fp4 F4 e6 hg4
          simp only [Exit.inBlock,Exit.then,if_true]
          have F14:=F13.trans F4
          refine f6y a4 W4 _ F4.sz F4.df (b6b (by unfold maxLen at hn63; omega)) (F14.u s23) ?_
          intro a5 F5 e23
          have F15:=F14.trans F5
          refine e8d hP hst hdr hw1 hn hn63 xs (i + 1) r1.1 r1.2 a5 W4 fp4 hd hk F5.sz F5.df (hg3.trans hg4) (F15.u s2) (F15.u s5) (F5.u e6) (F15.u s21) (F15.u s22) (by rw [e23]; simp) ?_
          intro a' W' fp'' F6
          exact hQ a' W' fp'' ((F15.trans F6).mono (by decide))
      · simp only [decide_eq_false_iff_not] at h; omega
    · cases hk
theorem e8e {Q:Exit → Act → World → Prop} (hP:∀ c a (d:Tmp) v w,Q (.panic c) (a.put (some d) v) w → Q (.panic c) a w) {fst:List (List a0r) → Nat → Int → Option Int} {ss:List a7q} {nx:Int} {r:List (List a0r)} {W1:World} {fp1 fs:List Nat} {v:Value} {N2 N5 n m:Nat} {oc:Option Addr}
    (hst:∀ ts i id n,fst ts i id = some n → a0k Tryz.prog 80 .flat [b3s ss,.agg [a1s ts,.int .i64 nx],.int .i64 i,.int .i64 id] (.int .i64 n))
    (hdr:∀ (t:List a0r) id,a1l Tryz.prog ⟨true,false,false⟩ 151 [.own 0 0 (t.map b0l).length,.int .i64 id] [.row 2 (t.map b0l)] (.own 1 0 ((t.filter fun r => !(r.1 == id)).map b0l).length) [.dead,.row 2 ((t.filter fun r => !(r.1 == id)).map b0l)])
    (hw1:PW W1 fp1 v N2 N5 (.slice oc n m) fs ss nx) (hn:n = ss.length) (hn63:n ≤ maxLen) :
    ∀ (k:Nat) (ts:List (List a0r)) (g:Bool) (a:Act) (W:World) (fp:List Nat),c5d fst ss k ts g = some r → a.tmps.size = 113 → a.defers = [] → GS W1 fp1 v ts W fp →
      a.eval (.tmp 2) = .pointer (some ⟨N2,0,none⟩) → a.eval (.tmp 5) = .pointer (some ⟨N5,0,none⟩) → a.eval (.tmp 6) = .bool g →
      (∀ a' W' fp',Fr 113 113 WG a a' → GS W1 fp1 v r W' fp' → Q (.exit 0) a' W') → Code.rounds Tryz.prog bodyPG Q k a W
  | 0,ts,g,a,W,fp,hk,sz,df,hg,s2,s5,s6,hQ => by simp only [c5d] at hk; cases hk
  | k + 1,ts,g,a,W,fp,hk,sz,df,hg,s2,s5,s6,hQ => by
    simp only [c5d] at hk
    rw [rounds_succ]
    unfold bodyPG RG
    refine wp_seq (wp_seq (pg3 a W _ sz df s6 ?_))
    intro a1 F1 e1
    refine wp_cond_split e1 (fun h => ?_) (fun h => ?_)
    · rw [if_pos h] at hk
      cases hB:c7x fst ss 0 ts false with
      | none => rw [hB] at hk; cases hk
      | some r1 =>
      rw [hB,Option.bind_some] at hk
      refine wp_skip ?_
      refine wp_block (wp_seq (pg4 a1 W _ F1.sz F1.df ?_))
      intro a2 F2 e6
      have F12:=F1.trans F2
      have hpw:=hw1.on hg
      refine wp_seq (pg5 a2 W _ F2.sz F2.df (hpw.b2.cell0 0) (F12.u s2) ?_)
      intro a3 F3 e21 e22 e23
      have F13:=F12.trans F3
      refine wp_block (wp_loop_rounds _ (e8d (by intro cc aa dd vv ww hh; exact hP cc aa dd vv ww hh) (r:=r1) hst hdr hw1 hn hn63 ss 0 ts false a3 W fp rfl hB F3.sz F3.df hg (F13.u s2) (F13.u s5) (F3.u e6) e21 e22 e23 ?_))
      intro a4 W4 fp4 F4 e6' hg4
      simp only [Exit.inBlock,Exit.then,if_true]
      have F14:=F13.trans F4
      refine e8e hP hst hdr hw1 hn hn63 k r1.1 r1.2 a4 W4 fp4 hk F4.sz F4.df hg4 (F14.u s2) (F14.u s5) e6' ?_
      intro a' W' fp'' F5
      exact hQ a' W' fp'' ((F14.trans F5).mono (by decide))
    · rw [if_neg (by rw [h]; exact Bool.false_ne_true)] at hk
      simp only [Option.some.injEq] at hk
      subst hk
      exact wp_exit (hQ a1 W fp (F1.mono (by decide)) hg)
end Go.R
end
section
set_option linter.all false
namespace Go.R
open Go Go.Proofs Go.RowKit
set_option maxRecDepth 100000
set_option maxHeartbeats 1000000
def b1y (ts:List (List a0r)):List (List Int):=ts.map fun t => t.map fun r => r.1
def c7y (q:List (List Int) → Int → Option Bool) (i c:Nat):Nat → Nat → List (List a0r) → Option (List (List a0r))
  | 0,_,ts => some ts
  | n + 1,k,ts => (ts[i]?).bind fun t => (t[k]?).bind fun r => (r.2[c]?).bind fun d => if (d.all fun x => (q (b1y ts) x.2.1).isSome) = true then c7y q i c n (k + 1) (ts.set i (t.set k (r.1,r.2.set c (d.filter fun x => (q (b1y ts) x.2.1).getD false)))) else none
theorem e4h {ts:List (List a0r)} {i k c:Nat} {t:List a0r} {r:a0r} {d:List a2h} (hi:ts[i]? = some t) (hk:t[k]? = some r):b1y (ts.set i (t.set k (r.1,r.2.set c d))) = b1y ts:=by
  obtain ⟨h1,rfl⟩:=List.getElem?_eq_some_iff.1 hi
  obtain ⟨h2,rfl⟩:=List.getElem?_eq_some_iff.1 hk
  unfold b1y
  rw [List.map_set,List.map_set]
  apply List.ext_getElem?
  intro j
  by_cases hj:i = j
  · subst hj
    rw [List.getElem?_set_self (by simpa using h1)]
    simp only [List.getElem?_map,List.getElem?_eq_getElem h1,Option.map_some,Option.some.injEq]
    apply List.ext_getElem?
    intro j
    by_cases hj:k = j
    · subst hj
      rw [List.getElem?_set_self (by simpa using h2)]
      simp [List.getElem?_eq_getElem h2]
    · rw [List.getElem?_set_ne hj]
  · rw [List.getElem?_set_ne hj]
theorem d2q {w w':World} {b o:Nat} {v:Value} (h:w'.heap[b]? = w.heap[b]?):(w'.setCell ⟨b,o,none⟩ v).heap[b]? = (w.setCell ⟨b,o,none⟩ v).heap[b]?:=by
  simp only [World.setCell,Array.getElem?_modify,if_true,h]
theorem e8f {ftab:List UInt8 → Option Int} {fhas:List (List Int) → Int → Int → Option Bool} {ss:List a7q} {nx:Int}
    (htab:∀ rf f,ftab rf = some f → a0k Tryz.prog 171 .flat [b3s ss,.str rf] (.int .i64 f))
    (hhas:∀ ts f N b,fhas (b1y ts) f N = some b → a0k Tryz.prog 82 .flat [.agg [a1s ts,.int .i64 nx],.int .i64 f,.int .i64 N] (.bool b))
    {W:World} {fp fs:List Nat} {p0:Option Addr} {p1 p2 N2 N5 NC:Nat} {sv:Value} {ts:List (List a0r)} (h:PW W fp (.slice p0 p1 p2) N2 N5 sv fs ss nx) (hr:Rep true W (a1s ts) [.slice p0 p1 p2] fp)
    {cs:Array Value} (hc:Bx W NC 125 cs) {rf:List UInt8} (h6:cs[6]? = some (.string ⟨rf.toArray⟩)) (hl:rf.length ≤ maxLen) {f k N:Int} {b:Bool} {T:ByteArray} (hf:ftab rf = some f) (hb:fhas (b1y ts) f N = some b) :
    Calls Tryz.prog 208 (#[.agg #[.int .i64 k,.int .i64 N,.string T]] ++ #[.pointer (some ⟨N5,0,none⟩),.pointer (some ⟨N2,0,none⟩),.pointer (some ⟨NC,0,none⟩)]) W fun e w' => e = .returned (.bool (!b)) ∧ Below W.heap.size W w':=by
  have hlts:=Rep.lt _ _ _ h.rs
  have hltr:=Rep.lt _ _ _ hr
  refine f3r (rf:=⟨rf.toArray⟩) (f:=f) W h.b5.lt h.b2.lt hc.lt (h.b5.cell0 0) (h.b5.cell0 1) (h.b2.cell0 0) ((hc.cell0 6).trans h6) ?_ ?_
  · intro W' hB
    refine (htab rf f hf W' [.agg #[sv],.string ⟨rf.toArray⟩] (fs ++ ([] ++ [])) ?_).mono ?_
    · simp only [a0z]
      exact ⟨[sv],_,fs,_,rfl,d5d (Rep.world _ _ _ (fun q hq => hB.block q (hlts q hq)) h.rs),⟨[.string ⟨rf.toArray⟩],[],[],[],rfl,by simp [Rep,hl],⟨rfl,rfl⟩,rfl⟩,rfl⟩
    · intro ev w' hh
      cases ev with
      | returned u =>
        obtain ⟨g1,cs,rfl,gg⟩:=hh
        simp only [Rep] at gg
        obtain ⟨rfl,-⟩:=gg
        exact ⟨rfl,g1⟩
      | panicked _ => exact hh.elim
      | outgrown => exact hh.elim
  · intro W' hB
    refine (hhas ts f N b hb W' [.agg #[.slice p0 p1 p2,.int .i64 nx],.int .i64 f,.int .i64 N] (fp ++ ([] ++ ([] ++ []))) ?_).mono ?_
    · simp only [a0z]
      exact ⟨[.slice p0 p1 p2,.int .i64 nx],_,fp,_,rfl,(b6n (Rep.world _ _ _ (fun q hq => hB.block q (hltr q hq)) hr)).weak',⟨[.int .i64 f],_,[],_,rfl,by simp [Rep],⟨[.int .i64 N],[],[],[],rfl,by simp [Rep],⟨rfl,rfl⟩,rfl⟩,rfl⟩,rfl⟩
    · intro ev w' hh
      cases ev with
      | returned u =>
        obtain ⟨g1,cs,rfl,gg⟩:=hh
        simp only [Rep] at gg
        obtain ⟨rfl,-⟩:=gg
        exact ⟨rfl,g1⟩
      | panicked _ => exact hh.elim
      | outgrown => exact hh.elim
abbrev WR:List Nat:=[16] ++ List.range' 94 16
theorem e8g {Q:Exit → Act → World → Prop} (hP:∀ c a (d:Tmp) v w,Q (.panic c) (a.put (some d) v) w → Q (.panic c) a w) {ftab:List UInt8 → Option Int} {fhas:List (List Int) → Int → Int → Option Bool} {ss:List a7q} {nx:Int} {i c:Nat} {r:List (List a0r)} {W1:World} {fp1 fs:List Nat} {v sv tv:Value} {N2 N5 NC nn:Nat} {cs:Array Value} {rf:List UInt8}
    (htab:∀ rf f,ftab rf = some f → a0k Tryz.prog 171 .flat [b3s ss,.str rf] (.int .i64 f))
    (hhas:∀ ts f N b,fhas (b1y ts) f N = some b → a0k Tryz.prog 82 .flat [.agg [a1s ts,.int .i64 nx],.int .i64 f,.int .i64 N] (.bool b))
    (hw1:PW W1 fp1 v N2 N5 sv fs ss nx) (hC:Bx W1 NC 125 cs) (nC:NC ∉ fp1) (h6:cs[6]? = some (.string ⟨rf.toArray⟩)) (hrl:rf.length ≤ maxLen) :
    ∀ (n k:Nat) (ts:List (List a0r)) (t:List a0r) (a:Act) (W:World) (fp:List Nat),c7y (fun ids N => (ftab rf).bind fun f => fhas ids f N) i c n k ts = some r → ts[i]? = some t → t.length = n + k → nn = t.length → a.tmps.size = 113 → a.defers = [] → GS W1 fp1 v ts W fp →
      (∀ b n0 m0,v = .slice (some ⟨b,0,none⟩) n0 m0 → W.cell? ⟨b,i,none⟩ = some tv) →
      a.eval (.tmp 2) = .pointer (some ⟨N2,0,none⟩) → a.eval (.tmp 5) = .pointer (some ⟨N5,0,none⟩) → a.eval (.tmp 13) = .int .i64 c → a.eval (.tmp 14) = .pointer (some ⟨NC,0,none⟩) → a.eval (.tmp 92) = tv → a.eval (.tmp 93) = .int .i64 nn → a.eval (.tmp 94) = .int .i64 k →
      (∀ a' W' fp',Fr 113 113 WR a a' → GS W1 fp1 v r W' fp' → Q (.exit 10) a' W') → Code.rounds Tryz.prog bodyPR Q (n + 1) a W
  | 0,k,ts,t,a,W,fp,hk,ht,hl,hnn,sz,df,hg,hth,s2,s5,s13,s14,s92,s93,s94,hQ => by
    rw [rounds_succ]
    unfold bodyPR RG
    refine wp_seq (f5b a W _ sz df s93 s94 ?_)
    intro a1 F1 e1
    refine wp_seq (wp_cond_split e1 (fun h => ?_) (fun h => ?_))
    · simp only [decide_eq_true_eq] at h; omega
    · simp only [c7y,Option.some.injEq] at hk
      subst hk
      exact wp_exit (hQ a1 W fp (F1.mono (by decide)) hg)
  | n + 1,k,ts,t,a,W,fp,hk,ht,hl,hnn,sz,df,hg,hth,s2,s5,s13,s14,s92,s93,s94,hQ => by
    simp only [c7y,ht,Option.bind_some] at hk
    cases hrow:t[k]? with
    | none => rw [hrow] at hk; cases hk
    | some rr =>
    rw [hrow,Option.bind_some] at hk
    cases hd:rr.2[c]? with
    | none => rw [hd] at hk; cases hk
    | some d =>
    rw [hd,Option.bind_some] at hk
    split at hk
    · rename_i hall
      have hil:i < ts.length:=(List.getElem?_eq_some_iff.1 ht).1
      have hkl:k < t.length:=(List.getElem?_eq_some_iff.1 hrow).1
      have hcl:c < rr.2.length:=(List.getElem?_eq_some_iff.1 hd).1
      have hlt:=Rep.lt _ _ _ hg.rp
      have gi:(ts.map a8n)[i]? = some (.lst 2 (t.map b0l)):=by rw [List.getElem?_map,ht]; rfl
      have gk:(t.map b0l)[k]? = some (.agg [.int .i64 rr.1,.lst 1 (rr.2.map a6o)]):=by rw [List.getElem?_map,hrow]; rfl
      have gc:(rr.2.map a6o)[c]? = some (a6o d):=by rw [List.getElem?_map,hd]; rfl
      obtain ⟨b,m0,g,m1,g2,m2,vc,fz,DA,hz,hzs,ndz,put⟩:=d7w hg.rp hg.nd gi gk gc
      obtain ⟨og,om,rfl,-⟩:=a5q hg.rp
      have hvb:(Value.slice og (ts.map a8n).length om) = .slice (some ⟨b,0,none⟩) (ts.map a8n).length m0:=DA.v
      have htv:=(hth b _ _ hvb).symm.trans DA.c0
      simp only [Option.some.injEq] at htv
      subst htv
      have hset:∀ d':List a2h,a1s (ts.set i (t.set k (rr.1,rr.2.set c d'))) = .lst 1 ((ts.map a8n).set i (.lst 2 ((t.map b0l).set k (.agg [.int .i64 rr.1,.lst 1 ((rr.2.map a6o).set c (a6o d'))])))):=by
        intro d'; simp [a1s,a8n,b0l,List.map_set]
      have d1:=DA.c1
      have t63:t.length ≤ maxLen:=by have:=DA.m1; rw [List.length_map] at this; omega
      rw [List.length_map] at d1 s92
      rw [rounds_succ]
      unfold bodyPR RG
      refine wp_seq (f5b a W _ sz df s93 s94 ?_)
      intro a1 F1 e1
      refine wp_seq (wp_cond_split e1 (fun h => ?_) (fun h => ?_))
      · refine wp_skip (wp_seq (wp_block (wp_seq (f7m a1 W _ F1.sz F1.df DA.ci d1 (by omega) (F1.u s92) (F1.u s94) ?_))))
        intro a2 W2 F2 e16 hX16 hb2
        have F12:=F1.trans F2
        have hg2:=hg.grew hb2
        have hb2d:Below W.heap.size W W2.drew:=hb2.drew
        have hz2:Rep true W2.drew (a6o d) [vc] fz:=Rep.world _ _ _ (fun q hq => hb2d.block q (hlt q (hzs q hq).1)) hz
        have n16:W.heap.size ∉ fz:=fun hm => by have:=hlt _ (hzs _ hm).1; omega
        have hg2f:g2 ∉ fz:=fun hm => (hzs _ hm).2.2.2 rfl
        have hg2l:g2 < W.heap.size:=hlt _ DA.bp.2.2
        have hws:=hb2.size
        -- the memory behind some of the work on the set
        have same:∀ W',Bs fz W2.drew W' → ∀ q ∈ fp,q ∉ fz → W'.heap[q]? = W.heap[q]?:=fun W' hB q hq hqz => (hB.block q (Nat.lt_of_lt_of_le (hlt q hq) hws) hqz).trans (hb2d.block q (hlt q hq))
        have hBfp:∀ W',Bs fz W2.drew W' → Bs fp W2 W':=fun W' hB => ⟨hB.os,hB.tape,hB.output,hB.size,fun j hj hn => hB.block j hj (fun hm => hn (hzs j hm).1)⟩
        have hsub2:∀ q,q ∈ fp ∨ q ∈ fz → q ∈ fp:=fun q hq => hq.elim (fun h => h) (fun h => (hzs q h).1)
        have hq:∀ x ∈ d,∀ (W':World) (L:List a2h),Bs fz W2.drew W' → Rep true W' (a6o L) [vc] fz → L.length = d.length → (∀ y ∈ L,y ∈ d) →
            Calls Tryz.prog 208 (#[.agg #[.int .i64 x.1,.int .i64 x.2.1,.string ⟨x.2.2.toArray⟩]] ++ #[.pointer (some ⟨N5,0,none⟩),.pointer (some ⟨N2,0,none⟩),.pointer (some ⟨NC,0,none⟩)]) W' fun e w' => e = .returned (.bool (!(((ftab rf).bind fun f => fhas (b1y ts) f x.2.1).getD false))) ∧ Below W'.heap.size W' w':=by
          intro x hx W' L hB hL hLl hLm
          have hxs:=List.all_eq_true.1 hall x hx
          cases hft:ftab rf with
          | none => rw [hft] at hxs; simp at hxs
          | some f =>
          cases hfh:fhas (b1y ts) f x.2.1 with
          | none => rw [hft,Option.bind_some,hfh] at hxs; simp at hxs
          | some bb =>
          simp only [Option.bind_some,hfh,Option.getD_some]
          obtain ⟨fp',p1,p2,p3⟩:=put W' (a6o L) vc fz (fun q hq hqz _ => same W' hB q hq hqz) ((same W' hB g2 DA.bp.2.2 hg2f).trans (e0v DA.c2).symm) rfl hL ndz (fun q hq => .inl hq)
          rw [← hset L] at p1
          have hg':GS W1 fp1 (.slice og (ts.map a8n).length om) (ts.set i (t.set k (rr.1,rr.2.set c L))) W' fp':=hg2.step (hBfp W' hB) p1 p2 (fun q hq => .inl (hsub2 q (p3 q hq)))
          exact e8f htab hhas (hw1.on hg') p1 (hg'.bs.box hC nC) h6 hrl hft (by rw [e4h ht hrow]; exact hfh)
        have hcall:=e8a (q:=fun x => !(((ftab rf).bind fun f => fhas (b1y ts) f x.2.1).getD false)) hz2 hq
        simp only [Bool.not_not] at hcall
        have u2:=F12.u s2
        have u5:=F12.u s5
        have u13:=F12.u s13
        have u14:=F12.u s14
        have hg2W:W2.heap[g2]? = W.heap[g2]?:=hb2.block g2 hg2l
        refine f7s a2 W2 _ F2.sz F2.df (fun cc aa dd vv ww hh => hP cc aa dd vv ww hh) (R:=fun z0 z1 z2 w' => ∃ f3,Bs fz W2.drew w' ∧ Rep true w' (a6o (d.filter fun x => ((ftab rf).bind fun f => fhas (b1y ts) f x.2.1).getD false)) [.slice z0 z1 z2] f3 ∧ f3.Nodup ∧ ∀ z ∈ f3,z ∈ fz)
          u2 u5 u13 u14 e16 (hX16.cell0 1) (by rw [hb2.cell (p:=⟨g2,c,none⟩) hg2l]; exact DA.c2) (by omega) (by omega) (hcall.mono ?_) ?_
        · rintro e w' ⟨z0,z1,z2,f3,rfl,q1,q2,q3,q4⟩
          have hgw:w'.heap[g2]? = W.heap[g2]?:=same w' q1 g2 DA.bp.2.2 hg2f
          refine ⟨z0,z1,z2,rfl,?_,⟨vc,?_⟩,?_,f3,q1,q2,q3,q4⟩
          · exact (q1.cell (p:=⟨W.heap.size,1,none⟩) hX16.lt n16).trans (hX16.cell0 1)
          · have:=DA.c2
            simp only [World.cell?] at this ⊢
            rw [hgw]; exact this
          · have:=DA.f2
            simp only [World.frozen?] at this ⊢
            rw [hgw]; exact this
        · rintro a3 w3 z0 z1 z2 ⟨f3,q1,q2,q3,q4⟩ F3
          have F13:=F12.trans F3
          have hne:∀ q,q ≠ g2 → (w3.setCell ⟨g2,c,none⟩ (.slice z0 z1 z2)).heap[q]? = w3.heap[q]?:=fun q hq => Below.heap_setCell _ _ _ _ hq
          obtain ⟨fp',p1,p2,p3⟩:=put (w3.setCell ⟨g2,c,none⟩ (.slice z0 z1 z2)) (a6o (d.filter fun x => ((ftab rf).bind fun f => fhas (b1y ts) f x.2.1).getD false)) (.slice z0 z1 z2) f3
            (fun q hq hqz hqg => (hne q hqg).trans (same w3 q1 q hq hqz)) (d2q (same w3 q1 g2 DA.bp.2.2 hg2f)) rfl (Rep.world _ _ _ (fun q hq => hne q (by rintro rfl; exact hg2f (q4 _ hq))) q2) q3 (fun q hq => .inl (q4 q hq))
          rw [← hset] at p1
          have hbs:Bs fp W2 (w3.setCell ⟨g2,c,none⟩ (.slice z0 z1 z2)):=(hBfp w3 q1).setCell (.inl DA.bp.2.2) _ _
          have hg4:GS W1 fp1 (.slice og (ts.map a8n).length om) _ (w3.setCell ⟨g2,c,none⟩ (.slice z0 z1 z2)) fp':=hg2.step hbs p1 p2 (fun q hq => .inl (hsub2 q ((p3 q hq).imp (fun h => h) (q4 q))))
          have hw:IntKind.i64.wrap ((k:Int) + 1) = (k:Int) + 1:=b6b (by unfold maxLen at t63; omega)
          refine f7b a3 _ _ F3.sz F3.df hw (F13.u s94) ?_
          intro a4 F4 e94
          have F14:=F13.trans F4
          refine e8g hP htab hhas hw1 hC nC h6 hrl n (k + 1) _ (t.set k (rr.1,rr.2.set c _)) a4 _ fp' hk (by rw [List.getElem?_set_self hil]) (by rw [List.length_set]; omega) (by rw [List.length_set]; exact hnn) F4.sz F4.df hg4 ?_
            (F14.u s2) (F14.u s5) (F14.u s13) (F14.u s14) (F14.u s92) (F14.u s93) (by rw [e94]; simp) ?_
          · intro b' n0' m0' hbb
            have hbe:b' = b:=by rw [hvb] at hbb; simp at hbb; exact hbb.1.symm
            subst hbe
            have h1:(w3.setCell ⟨g2,c,none⟩ (.slice z0 z1 z2)).heap[b']? = W.heap[b']?:=(hne b' (Ne.symm DA.ne.1)).trans (same w3 q1 b' DA.bp.1 (fun hm => (hzs _ hm).2.1 rfl))
            have:=DA.c0
            simp only [World.cell?] at this ⊢
            rw [h1,this,List.length_map]
          · intro a' W' fp'' F5
            exact hQ a' W' fp'' ((F14.trans F5).mono (by decide))
      · simp only [decide_eq_false_iff_not] at h; omega
    · cases hk
end Go.R
end
section
set_option linter.all false
namespace Go.R
open Go Go.Proofs Go.RowKit
set_option maxRecDepth 100000
set_option maxHeartbeats 1000000
def c1z (ftab:List UInt8 → Option Int) (fhas:List (List Int) → Int → Int → Option Bool) (i:Nat):List d2p → Nat → List (List a0r) → Option (List (List a0r))
 | [],_,ts => some ts
 | col :: cs,c,ts => if (decide (col.kd ≠ 4) || col.st) = true then c1z ftab fhas i cs (c + 1) ts else
  (ts[i]?).bind fun t => (c7y (fun ids N => (ftab col.rf).bind fun f => fhas ids f N) i c t.length 0 ts).bind fun ts' => c1z ftab fhas i cs (c + 1) ts'
def c7z (ftab:List UInt8 → Option Int) (fhas:List (List Int) → Int → Int → Option Bool):List a7q → Nat → List (List a0r) → Option (List (List a0r))
 | [],_,ts => some ts
 | s :: ss,i,ts => (c1z ftab fhas i s.cols 0 ts).bind fun ts' => c7z ftab fhas ss (i + 1) ts'
def c9q (ss:List a7q) (fcp:List (List a0r) → Option (List (List a0r))) (fst:List (List a0r) → Nat → Int → Option Int) (ftab:List UInt8 → Option Int) (fhas:List (List Int) → Int → Int → Option Bool) (ts:List (List a0r)):Option (List (List a0r)) :=
 (fcp ts).bind fun ts1 => (c5d fst ss FUEL ts1 true).bind fun ts2 => c7z ftab fhas ss 0 ts2
abbrev WC:List Nat:=[13,14,16] ++ List.range' 76 35
abbrev WI:List Nat:=[11,12,13,14,16] ++ List.range' 68 44
theorem e8h {Q:Exit → Act → World → Prop} (hP:∀ c a (d:Tmp) v w,Q (.panic c) (a.put (some d) v) w → Q (.panic c) a w) {ftab:List UInt8 → Option Int} {fhas:List (List Int) → Int → Int → Option Bool} {ss:List a7q} {nx:Int} {i:Nat} {r:List (List a0r)} {W1:World} {fp1 fs f1:List Nat} {v sv:Value} {N2 N5 n m:Nat} {oc:Option Addr} {cols:List d2p}
  (htab:∀ rf f,ftab rf = some f → a0k Tryz.prog 171 .flat [b3s ss,.str rf] (.int .i64 f))
  (hhas:∀ ts f N b,fhas (b1y ts) f N = some b → a0k Tryz.prog 82 .flat [.agg [a1s ts,.int .i64 nx],.int .i64 f,.int .i64 N] (.bool b))
  (hw1:PW W1 fp1 v N2 N5 sv fs ss nx) (hcs:Rep false W1 (.lst 8 (cols.map eCol)) [.slice oc n m] f1) (hf1:∀ q ∈ f1,q ∉ fp1) (hn:n = cols.length) (hn63:n ≤ maxLen) :
  ∀ (xs:List d2p) (c:Nat) (ts:List (List a0r)) (a:Act) (W:World) (fp:List Nat),cols.drop c = xs → c1z ftab fhas i xs c ts = some r → a.tmps.size = 113 → a.defers = [] → GS W1 fp1 v ts W fp →
   a.eval (.tmp 2) = .pointer (some ⟨N2,0,none⟩) → a.eval (.tmp 5) = .pointer (some ⟨N5,0,none⟩) → a.eval (.tmp 11) = .int .i64 i → a.eval (.tmp 74) = .slice oc n m → a.eval (.tmp 75) = .int .i64 n → a.eval (.tmp 76) = .int .i64 c →
   (∀ a' W' fp',Fr 113 113 WC a a' → GS W1 fp1 v r W' fp' → Q (.exit 8) a' W') → Code.rounds Tryz.prog bodyPC Q (xs.length + 1) a W
 | [],c,ts,a,W,fp,hd,hk,sz,df,hg,s2,s5,s11,s74,s75,s76,hQ => by
  have hj:cols.length ≤ c:=List.drop_eq_nil_iff.1 hd
  rw [rounds_succ]
  unfold bodyPC RG
  refine wp_seq (f5a a W _ sz df s75 s76 ?_)
  intro a1 F1 e1
  refine wp_seq (wp_cond_split e1 (fun h => ?_) (fun h => ?_))
  ·simp only [decide_eq_true_eq] at h; omega
  ·simp only [c1z,Option.some.injEq] at hk
   subst hk
   exact wp_exit (hQ a1 W fp (F1.mono (by decide)) hg)
 | col :: xs,c,ts,a,W,fp,hd,hk,sz,df,hg,s2,s5,s11,s74,s75,s76,hQ => by
  have hj:c < cols.length:=by
   rcases Nat.lt_or_ge c cols.length with h | h
   ·exact h
   ·rw [List.drop_eq_nil_iff.2 h] at hd; cases hd
  rw [List.drop_eq_getElem_cons hj] at hd
  simp only [List.cons.injEq] at hd
  obtain ⟨hx,hd⟩:=hd
  have hci:cols[c]? = some col:=by rw [List.getElem?_eq_getElem hj,hx]
  obtain ⟨g,og,m1,hsv,y0,d0,d1,d2,d3,d4,d5,d6,d7,hrl⟩:=e7t (hg.bs.rep hcs hf1) hci
  simp only [Value.slice.injEq] at hsv
  obtain ⟨rfl,-,rfl⟩:=hsv
  have hw:IntKind.i64.wrap ((c:Int) + 1) = (c:Int) + 1:=b6b (by unfold maxLen at hn63; omega)
  rw [List.length_cons,rounds_succ]
  unfold bodyPC RG
  refine wp_seq (f5a a W _ sz df s75 s76 ?_)
  intro a1 F1 e1
  refine wp_seq (wp_cond_split e1 (fun h => ?_) (fun h => ?_))
  ·-- behind the block
   have next:∀ (ts':List (List a0r)) (fp':List Nat) (a5:Act) (W5:World),c1z ftab fhas i xs (c + 1) ts' = some r → Fr 113 113 WC a a5 → a5.eval (.tmp 76) = .int .i64 c → GS W1 fp1 v ts' W5 fp' →
     (Code.region 27 (opsG 27) false).wp Tryz.prog (Exit.then (Code.rounds Tryz.prog bodyPC Q (xs.length + 1)) Q) a5 W5:=by
    intro ts' fp' a5 W5 hk' F5 e76 hg5
    refine f7a a5 W5 _ F5.sz F5.df hw e76 ?_
    intro a6 F6 e76'
    have F56:=F5.trans F6
    refine e8h hP htab hhas hw1 hcs hf1 hn hn63 xs (c + 1) ts' a6 W5 fp' hd hk' F6.sz F6.df hg5 (F56.u s2) (F56.u s5) (F56.u s11) (F56.u s74) (F56.u s75) (by rw [e76']; simp) ?_
    intro a' W' fp'' F7
    exact hQ a' W' fp'' ((F56.trans F7).mono (by decide))
   refine wp_skip (wp_seq (wp_block (wp_seq (f7n a1 W _ F1.sz F1.df d0 d1 d2 d3 d4 d5 d6 d7 (by omega) (F1.u s74) (F1.u s76) ?_))))
   intro a2 W2 F2 e13 e14 hXC hb2
   have F12:=F1.trans F2
   have hg2:=hg.grew hb2
   have hpw2:=hw1.on hg2
   have nC:W.heap.size ∉ fp:=fun hm => by have:=Rep.lt _ _ _ hg.rp _ hm; omega
   refine wp_seq (wp_seq (f7p a2 W2 _ F2.sz F2.df (hXC.cell0 1) (hXC.cell0 7) e14 ?_))
   intro a3 F3 e87
   have F13:=F12.trans F3
   simp only [c1z] at hk
   refine wp_cond_split e87 (fun hcc => ?_) (fun hcc => ?_)
   ·rw [if_pos hcc] at hk
    refine wp_exit ?_
    simp only [Exit.then,Exit.inBlock,if_true]
    exact next ts fp a3 W2 hk (F13.mono (by decide)) (F13.u s76) hg2
   ·rw [if_neg (by rw [hcc]; exact Bool.false_ne_true)] at hk
    refine wp_skip ?_
    cases ht:ts[i]? with
    | none => rw [ht] at hk; cases hk
    | some t =>
    rw [ht,Option.bind_some] at hk
    cases hR:c7y (fun ids N => (ftab col.rf).bind fun f => fhas ids f N) i c t.length 0 ts with
    | none => rw [hR] at hk; cases hk
    | some ts' =>
    rw [hR,Option.bind_some] at hk
    obtain ⟨b,m0,eb,cur,ot,mt,fx,rfl,t1,t2,B,hcu,hT,-,-,-,-,-⟩:=d5g hg2.rp hg2.nd ht
    have hil:i < ts.length:=(List.getElem?_eq_some_iff.1 ht).1
    refine wp_seq (f7e a3 W2 _ F3.sz F3.df (hpw2.b5.cell0 0) ((B.cell0 i).trans hcu) (by omega) (F13.u s5) (F13.u s11) ?_)
    intro a4 F4 e92 e93 e94
    have F14:=F13.trans F4
    refine wp_block (wp_loop_rounds _ (e8g (by intro cc aa dd vv ww hh; exact hP cc aa dd vv ww hh) (r:=ts') htab hhas hpw2 hXC nC (rf:=col.rf) rfl hrl t.length 0 ts t a4 W2 fp hR ht (by omega) rfl F4.sz F4.df (GS.start hg2.rp hg2.nd) (fun bb n0 mm hbb => ?_)
     (F14.u s2) (F14.u s5) ((F4.same 13 (by decide) (by decide)).trans (F3.u e13)) ((F4.same 14 (by decide) (by decide)).trans (F3.u e14)) e92 e93 e94 ?_))
    ·obtain ⟨rfl,-,-⟩:b = bb ∧ ts.length = n0 ∧ m0 = mm:=by simpa using hbb
     exact (B.cell0 i).trans hcu
    ·intro a5 W5 fp5 F5 hg5
     simp only [Exit.inBlock,Exit.then,if_true]
     have F15:=F14.trans F5
     exact next ts' fp5 a5 W5 hk (F15.mono (by decide)) (F15.u s76) (hg2.trans hg5)
  ·simp only [decide_eq_false_iff_not] at h; omega
theorem e8i {Q:Exit → Act → World → Prop} (hP:∀ c a (d:Tmp) v w,Q (.panic c) (a.put (some d) v) w → Q (.panic c) a w) {ftab:List UInt8 → Option Int} {fhas:List (List Int) → Int → Int → Option Bool} {ss:List a7q} {nx:Int} {r:List (List a0r)} {W1:World} {fp1 fs:List Nat} {v:Value} {N2 N5 n m:Nat} {oc:Option Addr}
  (htab:∀ rf f,ftab rf = some f → a0k Tryz.prog 171 .flat [b3s ss,.str rf] (.int .i64 f))
  (hhas:∀ ts f N b,fhas (b1y ts) f N = some b → a0k Tryz.prog 82 .flat [.agg [a1s ts,.int .i64 nx],.int .i64 f,.int .i64 N] (.bool b))
  (hw1:PW W1 fp1 v N2 N5 (.slice oc n m) fs ss nx) (hn:n = ss.length) (hn63:n ≤ maxLen) :
  ∀ (xs:List a7q) (i:Nat) (ts:List (List a0r)) (a:Act) (W:World) (fp:List Nat),ss.drop i = xs → c7z ftab fhas xs i ts = some r → a.tmps.size = 113 → a.defers = [] → GS W1 fp1 v ts W fp →
   a.eval (.tmp 2) = .pointer (some ⟨N2,0,none⟩) → a.eval (.tmp 5) = .pointer (some ⟨N5,0,none⟩) → a.eval (.tmp 66) = .slice oc n m → a.eval (.tmp 67) = .int .i64 n → a.eval (.tmp 68) = .int .i64 i →
   (∀ a' W' fp',Fr 113 113 WI a a' → GS W1 fp1 v r W' fp' → Q (.exit 6) a' W') → Code.rounds Tryz.prog bodyPI Q (xs.length + 1) a W
 | [],i,ts,a,W,fp,hd,hk,sz,df,hg,s2,s5,s66,s67,s68,hQ => by
  have hj:ss.length ≤ i:=List.drop_eq_nil_iff.1 hd
  rw [rounds_succ]
  unfold bodyPI RG
  refine wp_seq (f4z a W _ sz df s67 s68 ?_)
  intro a1 F1 e1
  refine wp_seq (wp_cond_split e1 (fun h => ?_) (fun h => ?_))
  ·simp only [decide_eq_true_eq] at h; omega
  ·simp only [c7z,Option.some.injEq] at hk
   subst hk
   exact wp_exit (hQ a1 W fp (F1.mono (by decide)) hg)
 | s :: xs,i,ts,a,W,fp,hd,hk,sz,df,hg,s2,s5,s66,s67,s68,hQ => by
  have hj:i < ss.length:=by
   rcases Nat.lt_or_ge i ss.length with h | h
   ·exact h
   ·rw [List.drop_eq_nil_iff.2 h] at hd; cases hd
  rw [List.drop_eq_getElem_cons hj] at hd
  simp only [List.cons.injEq] at hd
  obtain ⟨hx,hd⟩:=hd
  have hsi:ss[i]? = some s:=by rw [List.getElem?_eq_getElem hj,hx]
  simp only [c7z] at hk
  cases hC:c1z ftab fhas i s.cols 0 ts with
  | none => rw [hC] at hk; cases hk
  | some ts' =>
  rw [hC,Option.bind_some] at hk
  have hpw:=hw1.on hg
  obtain ⟨bs,os,ms,og,m1,ou,n2,m2,f1,hsv,q0,q1,q2,q3,q4,q5,q6,q7,-⟩:=e7y hpw.rs hsi
  simp only [Value.slice.injEq] at hsv
  obtain ⟨rfl,-,rfl⟩:=hsv
  rw [List.length_cons,rounds_succ]
  unfold bodyPI RG
  refine wp_seq (f4z a W _ sz df s67 s68 ?_)
  intro a1 F1 e1
  refine wp_seq (wp_cond_split e1 (fun h => ?_) (fun h => ?_))
  ·refine wp_skip (wp_seq (wp_block (wp_seq (f7k a1 W _ F1.sz F1.df q1 q2 q3 q4 (by omega) (F1.u s66) (F1.u s68) ?_))))
   intro a2 W2 F2 e11 e12 hX12 hb2
   have F12:=F1.trans F2
   have hg2:=hg.grew hb2
   have hpw2:=hw1.on hg2
   refine wp_seq (f7d a2 W2 _ F2.sz F2.df (hX12.cell0 1) e12 ?_)
   intro a3 F3 e74 e75 e76
   have F13:=F12.trans F3
   have hlts:=Rep.lt _ _ _ q5
   refine wp_block (wp_loop_rounds _ (e8h (by intro cc aa dd vv ww hh; exact hP cc aa dd vv ww hh) (r:=ts') htab hhas hpw2 (Rep.world (w:=W) _ _ _ (fun q hq => hb2.block q (hlts q hq)) q5) (fun q hq => hpw.ns q (q6 q hq)) rfl q7 s.cols 0 ts a3 W2 fp rfl hC F3.sz F3.df (GS.start hg2.rp hg2.nd)
    (F13.u s2) (F13.u s5) (F3.u e11) e74 e75 e76 ?_))
   intro a4 W4 fp4 F4 hg4
   simp only [Exit.inBlock,Exit.then,if_true]
   have F14:=F13.trans F4
   refine f6z a4 W4 _ F4.sz F4.df (b6b (by unfold maxLen at hn63; omega)) (F14.u s68) ?_
   intro a5 F5 e68
   have F15:=F14.trans F5
   refine e8i hP htab hhas hw1 hn hn63 xs (i + 1) ts' a5 W4 fp4 hd hk F5.sz F5.df (hg2.trans hg4) (F15.u s2) (F15.u s5) (F15.u s66) (F15.u s67) (by rw [e68]; simp) ?_
   intro a' W' fp'' F6
   exact hQ a' W' fp'' ((F15.trans F6).mono (by decide))
  ·simp only [decide_eq_false_iff_not] at h; omega
theorem f1k {ss:List a7q} {nx:Int} {fcp:List (List a0r) → Option (List (List a0r))} {fst:List (List a0r) → Nat → Int → Option Int} {ftab:List UInt8 → Option Int} {fhas:List (List Int) → Int → Int → Option Bool} {ts r:List (List a0r)}
  (hcp:∀ ts ts',fcp ts = some ts' → a0k Tryz.prog 143 .fresh [.agg [a1s ts,.int .i64 nx]] (.agg [a1s ts',.int .i64 nx]))
  (hst:∀ ts i id n,fst ts i id = some n → a0k Tryz.prog 80 .flat [b3s ss,.agg [a1s ts,.int .i64 nx],.int .i64 i,.int .i64 id] (.int .i64 n))
  (hdr:∀ (t:List a0r) id,a1l Tryz.prog ⟨true,false,false⟩ 151 [.own 0 0 (t.map b0l).length,.int .i64 id] [.row 2 (t.map b0l)] (.own 1 0 ((t.filter fun r => !(r.1 == id)).map b0l).length) [.dead,.row 2 ((t.filter fun r => !(r.1 == id)).map b0l)])
  (htab:∀ rf f,ftab rf = some f → a0k Tryz.prog 171 .flat [b3s ss,.str rf] (.int .i64 f))
  (hhas:∀ ts f N b,fhas (b1y ts) f N = some b → a0k Tryz.prog 82 .flat [.agg [a1s ts,.int .i64 nx],.int .i64 f,.int .i64 N] (.bool b))
  (hr:c9q ss fcp fst ftab fhas ts = some r):a0k Tryz.prog 111 .fresh [b3s ss,.agg [a1s ts,.int .i64 nx]] (.agg [a1s r,.int .i64 nx]):=by
 unfold c9q at hr
 cases ho:fcp ts with
 | none => rw [ho] at hr; cases hr
 | some ts1 =>
 rw [ho,Option.bind_some] at hr
 cases hG:c5d fst ss FUEL ts1 true with
 | none => rw [hG] at hr; cases hr
 | some ts2 =>
 rw [hG,Option.bind_some] at hr
 intro w vals fps hv
 simp only [a0z] at hv
 obtain ⟨cs,v1,fs,f1',rfl,hs,⟨c2,v2,f2,f2',rfl,hx,⟨rfl,rfl⟩,rfl⟩,rfl⟩:=hv
 have hs':∃ r0 r2,cs = [.slice r0 ss.length r2] ∧ Rep false w (.lst 4 (ss.map eTb)) [.slice r0 ss.length r2] fs ∧ ss.length ≤ maxLen:=by
  unfold b3s at hs
  rw [Rep,a0g] at hs
  obtain ⟨c,r,p,q,rfl,-,h1,h2,rfl⟩:=hs
  rw [a0g] at h2
  obtain ⟨rfl,rfl⟩:=h2
  obtain ⟨o,cc,rfl,hl⟩:=a5q h1
  rw [List.length_map] at *
  exact ⟨_,_,rfl,by simpa using h1,hl⟩
 obtain ⟨r0,r2,rfl,hS,hss⟩:=hs'
 obtain ⟨p0,p1,p2,rfl,hX⟩:=b3d hx
 have hlts:=Rep.lt _ _ _ hS
 have hltx:=Rep.lt _ _ _ hX
 refine calls_of_wp Tryz.func111 f1j ?_
 refine (fun key => key _ (by rw [show Tryz.f111.ntmps = 113 from rfl]; simp) rfl (by simp [Act.eval,b3s,mkV]) (by simp [Act.eval,mkV])) (?_:∀ a:Act,a.tmps.size = 113 → a.defers = [] → a.eval (.tmp 0) = .agg #[.slice r0 ss.length r2] → a.eval (.tmp 1) = .agg #[.slice p0 p1 p2,.int .i64 nx] → skelG.wp Tryz.prog _ a w)
 intro a sz df s0 s1
 unfold skelG RG
 refine wp_seq (pg0 a w _ sz df s0 s1 ?_)
 intro a1 F1 e2 e3 e4
 have b1:=((Bx.new w 25 #[.slice r0 ss.length r2]).alloc (.cells #[.slice p0 p1 p2,.int .i64 nx] 29)).alloc (.cells #[.slice none 0 0,.int .i64 0] 29)
 have b2:=(Bx.new (w.alloc (.cells #[.slice r0 ss.length r2] 25)) 29 #[.slice p0 p1 p2,.int .i64 nx]).alloc (.cells #[.slice none 0 0,.int .i64 0] 29)
 have b3:=Bx.new ((w.alloc (.cells #[.slice r0 ss.length r2] 25)).alloc (.cells #[.slice p0 p1 p2,.int .i64 nx] 29)) 29 #[.slice none 0 0,.int .i64 0]
 have hW:(((w.alloc (.cells #[.slice r0 ss.length r2] 25)).alloc (.cells #[.slice p0 p1 p2,.int .i64 nx] 29)).alloc (.cells #[.slice none 0 0,.int .i64 0] 29)).heap.size = w.heap.size + 3:=by simp
 have hB1:Below w.heap.size w (((w.alloc (.cells #[.slice r0 ss.length r2] 25)).alloc (.cells #[.slice p0 p1 p2,.int .i64 nx] 29)).alloc (.cells #[.slice none 0 0,.int .i64 0] 29)):=(((Below.refl _ w).alloc (Nat.le_refl _) _).alloc (by rw [World.size_alloc]; omega) _).alloc (by rw [World.size_alloc,World.size_alloc]; omega) _
 rw [World.size_alloc] at b2
 rw [World.size_alloc,World.size_alloc] at b3
 generalize (((w.alloc (.cells #[.slice r0 ss.length r2] 25)).alloc (.cells #[.slice p0 p1 p2,.int .i64 nx] 29)).alloc (.cells #[.slice none 0 0,.int .i64 0] 29)) = W1 at b1 b2 b3 hW hB1 ⊢
 have hS1:Rep false W1 (.lst 4 (ss.map eTb)) [.slice r0 ss.length r2] fs:=Rep.world _ _ _ (fun q hq => hB1.block q (hlts q hq)) hS
 refine wp_seq (pg1 a1 W1 _ F1.sz F1.df (R:=fun y0 y1 y2 w' => Below W1.heap.size W1 w' ∧ ∃ fp',Rep true w' (a1s ts1) [.slice y0 y1 y2] fp' ∧ fp'.Nodup ∧ ∀ q ∈ fp',W1.heap.size ≤ q) b2 e3 ((hcp ts ts1 ho W1 [.agg #[.slice p0 p1 p2,.int .i64 nx]] (f2 ++ []) ?_).mono ?_) ?_)
 ·simp only [a0z]
  exact ⟨[.slice p0 p1 p2,.int .i64 nx],_,f2,_,rfl,Rep.world (w:=w) _ _ _ (fun q hq => hB1.block q (Rep.lt _ _ _ hx q hq)) hx,⟨rfl,rfl⟩,rfl⟩
 ·intro ev w' hh
  cases ev with
  | returned u =>
   obtain ⟨g1,fp',⟨cs,rfl,gg⟩,gn,gge⟩:=hh
   obtain ⟨y0,y1,y2,rfl,gr⟩:=b3d gg
   exact ⟨y0,y1,y2,rfl,g1,fp',gr,gn,gge⟩
  | panicked _ => exact hh.elim
  | outgrown => exact hh.elim
 ·rintro a2 w2 W2 y0 y1 y2 ⟨hb2,fp',z1,z2,z3⟩ F2 e5 hX5 hbW
  have hs2:=hb2.size
  have hltz:=Rep.lt _ _ _ z1
  have hR2:Rep true W2 (a1s ts1) [.slice y0 y1 y2] fp':=Rep.world _ _ _ (fun q hq => hbW.block q (hltz q hq)) z1
  have hBW:Below W1.heap.size W1 W2:=hb2.trans (hbW.mono hs2)
  have hpw:PW W2 fp' (.slice y0 y1 y2) w.heap.size w2.heap.size (.slice r0 ss.length r2) fs ss nx :=
   ⟨b1.below hBW (by omega),fun hm => by have:=z3 _ hm; omega,hX5,fun hm => by have:=hltz _ hm; omega,Rep.world _ _ _ (fun q hq => hBW.block q (by have:=hlts q hq; omega)) hS1,fun q hq hm => by have:=z3 q hm; have:=hlts q hq; omega⟩
  have F12:=F1.trans F2
  refine wp_seq (wp_seq (pg2 a2 W2 _ F2.sz F2.df ?_))
  intro a3 F3 e6
  have F23:=F2.trans F3
  refine wp_block (wp_loop_rounds FUEL (e8e (by intro cc aa dd vv ww hh; exact hh) (r:=ts2) hst hdr hpw rfl hss FUEL ts1 true a3 W2 fp' hG F3.sz F3.df (GS.start hR2 z2) (F23.u e2) (F3.u e5) e6 ?_))
  intro a4 W4 fp4 F4 hg4
  simp only [Exit.inBlock,Exit.then,if_true]
  have F24:=F23.trans F4
  have hpw4:=hpw.on hg4
  refine wp_seq (wp_seq (f7c a4 W4 _ F4.sz F4.df (hpw4.b2.cell0 0) (F24.u e2) ?_))
  intro a5 F5 e66 e67 e68
  have F25:=F24.trans F5
  have e55:=(F5.same 5 (by decide) (by decide)).trans ((F4.same 5 (by decide) (by decide)).trans (F3.u e5))
  refine wp_block (wp_loop_rounds _ (e8i (by intro cc aa dd vv ww hh; exact hh) (r:=r) htab hhas hpw rfl hss ss 0 ts2 a5 W4 fp4 rfl hr F5.sz F5.df hg4 (F25.u e2) e55 e66 e67 e68 ?_))
  intro a6 W6 fp6 F6 hg6
  simp only [Exit.inBlock,Exit.then,if_true]
  have hpw6:=hpw.on hg6
  have h46:Bx W6 (w.heap.size + 2) 29 #[.slice none 0 0,.int .i64 0]:=hg6.bs.box (b3.below hBW (by omega)) (fun hm => by have:=z3 _ hm; omega)
  have F26:=F25.trans F6
  refine wp_seq (f7o a6 W6 _ F6.sz F6.df hpw6.b5 h46 (F6.u e55) (F26.u e4) ?_)
  intro a7 F7
  have e47:=(F7.same 4 (by decide) (by decide)).trans (F26.u e4)
  have hr7:=Bx.set2 h46 (.slice y0 y1 y2) (.int .i64 nx)
  have hsame7:∀ q,q ≠ w.heap.size + 2 → ((W6.setCell ⟨w.heap.size + 2,0,none⟩ (.slice y0 y1 y2)).setCell ⟨w.heap.size + 2,1,none⟩ (.int .i64 nx)).heap[q]? = W6.heap[q]?:=fun q hq => (Below.heap_setCell _ _ _ _ hq).trans (Below.heap_setCell _ _ _ _ hq)
  obtain ⟨fz,hu29⟩:∃ fz,Tryz.prog.underlying 29 = some (.struct fz):=⟨_,rfl⟩
  have hge:∀ q ∈ fp6,W1.heap.size ≤ q:=fun q hq => by
   rcases hg6.sub q hq with h | h
   ·exact z3 q h
   ·have:=hBW.size; omega
  refine wp_ret ?_
  refine bodyPost_ret (results_cell_row rfl _ _ (w.heap.size + 2) 29 #[.slice y0 y1 y2,.int .i64 nx] (0,0) _ (by simpa [Act.eval] using e47) hr7 hu29 rfl (by kernel_rfl)) F7.df ?_
  refine ⟨?_,fp6,⟨[.slice y0 y1 y2,.int .i64 nx],rfl,b6n (Rep.world _ _ _ (fun q hq => hsame7 q (by have:=hge q hq; omega)) hg6.rp)⟩,hg6.nd,fun q hq => by have:=hge q hq; omega⟩
  have hb6:Below w.heap.size W2 W6:=hg6.bs.below (by have:=hBW.size; omega) (fun q hq => by have:=z3 q hq; omega)
  exact ((hB1.trans ((hBW.mono (by omega)).trans hb6)).setCell (p:=⟨w.heap.size + 2,0,none⟩) (by show _ ≤ w.heap.size + 2; omega) _).setCell (p:=⟨w.heap.size + 2,1,none⟩) (by show _ ≤ w.heap.size + 2; omega) _
end Go.R
end
