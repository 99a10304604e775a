/- The functions of the code as the pure engine's texts, printed by my program gen2.py: each with its call. -/
import Derived.Test.YtnhicpkhkaihoaaChecked
import Derived.Test.YtnhicpkhkaihoaaCcPZ4
import Derived.KernelRfl
namespace Go.Proofs.Ytnhicpkhkaihoaa.P
open Go Go.Proofs.Ytnhicpkhkaihoaa Go.Proofs.Ytnhicpkhkaihoaa.Eng
set_option linter.unusedVariables false
set_option maxRecDepth 100000
/-- laws.heldWeakS -/
def laws_heldWeakS.sg : Sg := ⟨[(0, [.t 2 0]), (0, [.v])], [(0, [.v])], []⟩
def laws_heldWeakS.txt (C : Ctx) (a0 : Value) (c0 : List T) (K : J2) : Prop :=
 loopP (fun r3 x1 k2 =>
 prP (bnI .lss (nx x1 1) (iv (cnt 2 c0))) fun t9_5 =>
 cndP t9_5 (
 ixW (cnt 2 c0) (nx x1 1) fun t14_6 =>
 ldc c0 [] ((natOf t14_6) * 2) fun t16_7 =>
 prP (bnI .rem (nx x1 0) (.int .i64 3)) fun t18_8 =>
 prP (bnI .eql t18_8 (.int .i64 0)) fun t19_9 =>
 prP (bnB .neq t16_7 t19_9) fun t20_10 =>
 cndP t20_10 (
 K [(.int .i64 (-1))] []) (
 prP (bnI .add (nx x1 0) (.int .i64 1)) fun t22_11 =>
 ixW (cnt 2 c0) (nx x1 1) fun t25_12 =>
 ldc c0 [] (((natOf t25_12) * 2) + 1) fun t27_13 =>
 prP (bnI .neq t27_13 t22_11) fun t29_14 =>
 cndP t29_14 (
 K [(.int .i64 (-1))] []) (
 prP (bnI .add t22_11 (.int .i64 1)) fun t31_15 =>
 prP (bnI .add (nx x1 1) (.int .i64 1)) fun t11_16 =>
 r3 [t31_15, t11_16] []))) (
 K [(nx x1 0)] [])) [a0, (.int .i64 0)] []
theorem laws_heldWeakS.cl2 {w0 : World} {a0 : Value} {c0 : List T} {K : J2} (h : laws_heldWeakS.txt ⟨Try.prog, w0⟩ a0 c0 K) : Eng.cl2 ⟨Try.prog, w0⟩ 133 laws_heldWeakS.sg [a0] [c0] K :=
  cl2_of_run (C := ⟨Try.prog, w0⟩) (f := 133) (fn := Try.f133) [] [] [(26, ⟨[.t (.f 0) 2, .v, .v], [], []⟩)] Try.func133 (by kernel_rfl) (by kernel_rfl) (by kernel_rfl) h
/-- spec.GraphOf -/
def spec_GraphOf.sg : Sg := ⟨[(1, [.t 8 0, .t 2 0, .t 1 0, .t 1 0])], [(1, [.t 6, .t 2, .t 1])], []⟩
def spec_GraphOf.txt (C : Ctx) (c0 c1 c2 c3 : List T) (K : J2) : Prop :=
 apW c1 true (cnt 2 []) (cnt 2 c1) 16 (
 apW c3 true (cnt 1 []) (cnt 1 c3) 16 (
 loopP (fun r3 x1 k2 =>
 prP (bnI .lss (nx x1 0) (iv (cnt 8 c0))) fun t19_10 =>
 cndP t19_10 (
 ixW (cnt 8 c0) (nx x1 0) fun t25_11 =>
 ldg c0 [] ((natOf t25_11) * 8) [.c, .c, .c, .c, .c, .c, .l 1, .c] fun ts12 =>
 apW (subN c0 [(((natOf t25_11) * 8) + 6)]) true (cnt 1 []) (cnt 1 (subN c0 [(((natOf t25_11) * 8) + 6)])) 8 (
 apW [T.c (tv (nxT ts12 0)), T.c (tv (nxT ts12 1)), T.c (tv (nxT ts12 2)), T.c (tv (nxT ts12 3)), T.c (tv (nxT ts12 4)), T.l 1 ([] ++ (subN c0 [(((natOf t25_11) * 8) + 6)]))] false (cnt 6 (nxc k2 0)) (cnt 6 [T.c (tv (nxT ts12 0)), T.c (tv (nxT ts12 1)), T.c (tv (nxT ts12 2)), T.c (tv (nxT ts12 3)), T.c (tv (nxT ts12 4)), T.l 1 ([] ++ (subN c0 [(((natOf t25_11) * 8) + 6)]))]) 64 (
 prP (bnI .add (nx x1 0) (.int .i64 1)) fun t21_13 =>
 r3 [t21_13] [((nxc k2 0) ++ [T.c (tv (nxT ts12 0)), T.c (tv (nxT ts12 1)), T.c (tv (nxT ts12 2)), T.c (tv (nxT ts12 3)), T.c (tv (nxT ts12 4)), T.l 1 ([] ++ (subN c0 [(((natOf t25_11) * 8) + 6)]))]), (nxc k2 1), (nxc k2 2)]))) (
 K [] [(nxc k2 0), (nxc k2 1), (nxc k2 2)])) [(.int .i64 0)] [[], ([] ++ c1), ([] ++ c3)]))
theorem spec_GraphOf.cl2 {w0 : World} {c0 c1 c2 c3 : List T} {K : J2} (h : spec_GraphOf.txt ⟨Try.prog, w0⟩ c0 c1 c2 c3 K) : Eng.cl2 ⟨Try.prog, w0⟩ 65 spec_GraphOf.sg [] [c0, c1, c2, c3] K :=
  cl2_of_run (C := ⟨Try.prog, w0⟩) (f := 65) (fn := Try.f65) [] [(1, [0, 0, 2, 7, 0, 0, 32, 127, 255, 0, 1023]), (6, [0, 1, 0, 4, 0, 16, 0, 64, 0, 256, 0, 1024, 0, 0, 8192, 28672, 65532, 131068, 262143, 524287, 1048575])] [(58, ⟨[.p (.j 0) 0, .p (.j 1) 0, .p (.j 2) 0, .v], [], [.bx [.t (.f 0) 8, .t (.f 1) 2, .t (.f 2) 1, .t (.f 3) 1], .bx [.z, .z, .z], .bx [.t (.j 3) 6, .t (.j 4) 2, .t (.j 5) 1], .ls, .ls, .ls]⟩)] Try.func65 (by kernel_rfl) (by kernel_rfl) (by kernel_rfl) h
/-- impl.GraphOf -/
def impl_GraphOf.sg : Sg := ⟨[(1, [.t 8 0, .t 2 0, .t 1 0, .t 1 0])], [(1, [.t 6, .t 2, .t 1])], []⟩
def impl_GraphOf.txt (C : Ctx) (c0 c1 c2 c3 : List T) (K : J2) : Prop :=
 apW c1 true 0 (cnt 2 c1) 16 (
 cl2 C 144 impl_copyTexts.sg [] [c3] fun v1 d2 =>
 loopP (fun r5 x3 k4 =>
 prP (bnI .lss (nx x3 1) (nx x3 0)) fun t17_14 =>
 cndP t17_14 (
 ixW (cnt 8 c0) (nx x3 1) fun t18_15 =>
 ldg c0 [] ((natOf t18_15) * 8) [.c, .c, .c, .c, .c, .c, .l 1, .c] fun ts16 =>
 cl2 C 145 impl_copyInts.sg [] [(subN c0 [(((natOf t18_15) * 8) + 6)])] fun v17 d18 =>
 apW [T.c (tv (nxT ts16 0)), T.c (tv (nxT ts16 1)), T.c (tv (nxT ts16 2)), T.c (tv (nxT ts16 3)), T.c (tv (nxT ts16 4)), T.l 1 (nxc d18 0)] false (cnt 6 (nxc k4 0)) (cnt 6 [T.c (tv (nxT ts16 0)), T.c (tv (nxT ts16 1)), T.c (tv (nxT ts16 2)), T.c (tv (nxT ts16 3)), T.c (tv (nxT ts16 4)), T.l 1 (nxc d18 0)]) 64 (
 prP (bnI .add (nx x3 1) (.int .i64 1)) fun t39_19 =>
 r5 [(nx x3 0), t39_19] [((nxc k4 0) ++ [T.c (tv (nxT ts16 0)), T.c (tv (nxT ts16 1)), T.c (tv (nxT ts16 2)), T.c (tv (nxT ts16 3)), T.c (tv (nxT ts16 4)), T.l 1 (nxc d18 0)]), (nxc k4 1), (nxc k4 2)])) (
 K [] [(nxc k4 0), (nxc k4 1), (nxc k4 2)])) [(iv (cnt 8 c0)), (.int .i64 0)] [[], ([] ++ c1), (nxc d2 0)])
theorem impl_GraphOf.cl2 {w0 : World} {c0 c1 c2 c3 : List T} {K : J2} (h : impl_GraphOf.txt ⟨Try.prog, w0⟩ c0 c1 c2 c3 K) : Eng.cl2 ⟨Try.prog, w0⟩ 66 impl_GraphOf.sg [] [c0, c1, c2, c3] K :=
  cl2_of_run (C := ⟨Try.prog, w0⟩) (f := 66) (fn := Try.f66) [(144, impl_copyTexts.sg), (145, impl_copyInts.sg)] [(1, [0, 1, 3, 0, 8, 31, 63, 0, 255]), (5, [0, 1, 0, 4, 0, 16, 0, 64, 0, 256, 0, 1024, 0, 4096, 12288, 32764, 65532, 131071, 262143, 524287])] [(58, ⟨[.p (.j 0) 0, .p (.j 1) 0, .t (.f 0) 8, .v, .v], [], [.bx [.z, .z, .z], .bx [.t (.j 2) 6, .t (.j 3) 2, .t (.j 4) 1], .ls, .ls, .ls]⟩)] Try.func66 (by kernel_rfl) (by kernel_rfl) (by kernel_rfl) h
/-- laws.eqNode -/
def laws_eqNode.sg : Sg := ⟨[(1, [.v, .v, .v, .v, .v, .t 1 0]), (1, [.v, .v, .v, .v, .v, .t 1 0])], [(0, [.v])], []⟩
def laws_eqNode.txt (C : Ctx) (a0 a1 a2 a3 a4 a5 a6 a7 a8 a9 : Value) (c0 c1 : List T) (K : J2) : Prop :=
 prP (bnB .neq a0 a5) fun t9_1 =>
 cndP t9_1 (
 K [(.bool false)] []) (
 prP (bnI .neq a1 a6) fun t14_2 =>
 cndP t14_2 (
 K [(.bool false)] []) (
 prP (bnI .neq a2 a7) fun t19_3 =>
 cndP t19_3 (
 K [(.bool false)] []) (
 prP (bnI .neq a3 a8) fun t24_4 =>
 cndP t24_4 (
 K [(.bool false)] []) (
 prP (bnI .neq a4 a9) fun t29_5 =>
 cndP t29_5 (
 K [(.bool false)] []) (
 cl2 C 17 laws_eqIntS.sg [] [c0, c1] fun v6 d7 =>
 prP (un .not (nx v6 0)) fun t35_9 =>
 cndP t35_9 (
 K [(.bool false)] []) (
 K [(.bool true)] []))))))
theorem laws_eqNode.cl2 {w0 : World} {a0 a1 a2 a3 a4 a5 a6 a7 a8 a9 : Value} {c0 c1 : List T} {K : J2} (h : laws_eqNode.txt ⟨Try.prog, w0⟩ a0 a1 a2 a3 a4 a5 a6 a7 a8 a9 c0 c1 K) : Eng.cl2 ⟨Try.prog, w0⟩ 201 laws_eqNode.sg [a0, a1, a2, a3, a4, a5, a6, a7, a8, a9] [c0, c1] K :=
  cl2_of_run (C := ⟨Try.prog, w0⟩) (f := 201) (fn := Try.f201) [(17, laws_eqIntS.sg)] [] [] Try.func201 (by kernel_rfl) (by kernel_rfl) (by kernel_rfl) h
/-- laws.eqNodeS -/
def laws_eqNodeS.sg : Sg := ⟨[(0, [.t 6 0]), (0, [.t 6 0])], [(0, [.v])], []⟩
def laws_eqNodeS.txt (C : Ctx) (c0 c1 : List T) (K : J2) : Prop :=
 prP (bnI .neq (iv (cnt 6 c0)) (iv (cnt 6 c1))) fun t10_1 =>
 cndP t10_1 (
 K [(.bool false)] []) (
 loopP (fun r4 x2 k3 =>
 prP (bnI .lss (nx x2 0) (iv (cnt 6 c0))) fun t14_6 =>
 cndP t14_6 (
 ixW (cnt 6 c0) (nx x2 0) fun t19_7 =>
 ldg c0 [] ((natOf t19_7) * 6) [.c, .c, .c, .c, .c, .l 1] fun ts8 =>
 ixW (cnt 6 c1) (nx x2 0) fun t23_9 =>
 ldg c1 [] ((natOf t23_9) * 6) [.c, .c, .c, .c, .c, .l 1] fun ts10 =>
 cl2 C 201 laws_eqNode.sg [(tv (nxT ts8 0)), (tv (nxT ts8 1)), (tv (nxT ts8 2)), (tv (nxT ts8 3)), (tv (nxT ts8 4)), (tv (nxT ts10 0)), (tv (nxT ts10 1)), (tv (nxT ts10 2)), (tv (nxT ts10 3)), (tv (nxT ts10 4))] [(subN c0 [(((natOf t19_7) * 6) + 5)]), (subN c1 [(((natOf t23_9) * 6) + 5)])] fun v11 d12 =>
 prP (un .not (nx v11 0)) fun t26_14 =>
 cndP t26_14 (
 K [(.bool false)] []) (
 prP (bnI .add (nx x2 0) (.int .i64 1)) fun t16_15 =>
 r4 [t16_15] [])) (
 K [(.bool true)] [])) [(.int .i64 0)] [])
theorem laws_eqNodeS.cl2 {w0 : World} {c0 c1 : List T} {K : J2} (h : laws_eqNodeS.txt ⟨Try.prog, w0⟩ c0 c1 K) : Eng.cl2 ⟨Try.prog, w0⟩ 146 laws_eqNodeS.sg [] [c0, c1] K :=
  cl2_of_run (C := ⟨Try.prog, w0⟩) (f := 146) (fn := Try.f146) [(201, laws_eqNode.sg)] [(6, [0, 0, 3, 7, 0, 0, 48, 112, 255, 511])] [(58, ⟨[.t (.f 0) 6, .t (.f 1) 6, .v], [], []⟩)] Try.func146 (by kernel_rfl) (by kernel_rfl) (by kernel_rfl) h
/-- laws.eqGraph -/
def laws_eqGraph.sg : Sg := ⟨[(1, [.t 6 0, .t 2 0, .t 1 0]), (1, [.t 6 0, .t 2 0, .t 1 0])], [(0, [.v])], []⟩
def laws_eqGraph.txt (C : Ctx) (c0 c1 c2 c3 c4 c5 : List T) (K : J2) : Prop :=
 cl2 C 146 laws_eqNodeS.sg [] [c0, c3] fun v1 d2 =>
 prP (un .not (nx v1 0)) fun t10_4 =>
 cndP t10_4 (
 K [(.bool false)] []) (
 cl2 C 86 laws_eqWeakS.sg [] [c1, c4] fun v5 d6 =>
 prP (un .not (nx v5 0)) fun t16_8 =>
 cndP t16_8 (
 K [(.bool false)] []) (
 cl2 C 87 laws_eqStringS.sg [] [c2, c5] fun v9 d10 =>
 prP (un .not (nx v9 0)) fun t22_12 =>
 cndP t22_12 (
 K [(.bool false)] []) (
 K [(.bool true)] [])))
theorem laws_eqGraph.cl2 {w0 : World} {c0 c1 c2 c3 c4 c5 : List T} {K : J2} (h : laws_eqGraph.txt ⟨Try.prog, w0⟩ c0 c1 c2 c3 c4 c5 K) : Eng.cl2 ⟨Try.prog, w0⟩ 67 laws_eqGraph.sg [] [c0, c1, c2, c3, c4, c5] K :=
  cl2_of_run (C := ⟨Try.prog, w0⟩) (f := 67) (fn := Try.f67) [(146, laws_eqNodeS.sg), (86, laws_eqWeakS.sg), (87, laws_eqStringS.sg)] [] [] Try.func67 (by kernel_rfl) (by kernel_rfl) (by kernel_rfl) h
/-- laws.markNodeS -/
def laws_markNodeS.sg : Sg := ⟨[(0, [.t 6 1]), (0, [.v])], [(0, [.v])], []⟩
def laws_markNodeS.txt (C : Ctx) (a0 : Value) (c0 : List T) (K : J2) : Prop :=
 loopP (fun r3 x1 k2 =>
 prP (bnI .lss (nx x1 1) (iv (cnt 6 (nxc k2 0)))) fun t9_5 =>
 cndP t9_5 (
 prP (bnI .rem (nx x1 0) (.int .i64 3)) fun t15_6 =>
 prP (bnI .eql t15_6 (.int .i64 0)) fun t16_7 =>
 ixW (cnt 6 (nxc k2 0)) (nx x1 1) fun t17_8 =>
 stc (nxc k2 0) [] ((natOf t17_8) * 6) t16_7 fun k9 =>
 prP (bnI .add (nx x1 0) (.int .i64 1)) fun t20_10 =>
 ixW (cnt 6 k9) (nx x1 1) fun t24_11 =>
 stc k9 [] (((natOf t24_11) * 6) + 1) t20_10 fun k12 =>
 prP (bnI .add t20_10 (.int .i64 1)) fun t27_13 =>
 ixW (cnt 6 k12) (nx x1 1) fun t31_14 =>
 stc k12 [] (((natOf t31_14) * 6) + 2) t27_13 fun k15 =>
 prP (bnI .add t27_13 (.int .i64 1)) fun t34_16 =>
 ixW (cnt 6 k15) (nx x1 1) fun t38_17 =>
 stc k15 [] (((natOf t38_17) * 6) + 3) t34_16 fun k18 =>
 prP (bnI .add t34_16 (.int .i64 1)) fun t41_19 =>
 ixW (cnt 6 k18) (nx x1 1) fun t45_20 =>
 stc k18 [] (((natOf t45_20) * 6) + 4) t41_19 fun k21 =>
 prP (bnI .add t41_19 (.int .i64 1)) fun t48_22 =>
 ixW (cnt 6 k21) (nx x1 1) fun t51_23 =>
 ldl k21 [] (((natOf t51_23) * 6) + 5) 1 fun t53_24 =>
 cl2 C 20 laws_markIntS.sg [t48_22] [(subN k21 [(((natOf t51_23) * 6) + 5)])] fun v25 d26 =>
 prP (bnI .add (nx x1 1) (.int .i64 1)) fun t11_27 =>
 r3 [(nx v25 0), t11_27] [(nput k21 [(((natOf t51_23) * 6) + 5)] (nxc d26 0))]) (
 K [(nx x1 0)] [(nxc k2 0)])) [a0, (.int .i64 0)] [c0]
theorem laws_markNodeS.cl2 {w0 : World} {a0 : Value} {c0 : List T} {K : J2} (h : laws_markNodeS.txt ⟨Try.prog, w0⟩ a0 c0 K) : Eng.cl2 ⟨Try.prog, w0⟩ 147 laws_markNodeS.sg [a0] [c0] K :=
  cl2_of_run (C := ⟨Try.prog, w0⟩) (f := 147) (fn := Try.f147) [(20, laws_markIntS.sg)] [] [(26, ⟨[.t (.j 0) 6, .v, .v], [.t (.j 0) 6], [.ls]⟩)] Try.func147 (by kernel_rfl) (by kernel_rfl) (by kernel_rfl) h
/-- laws.markGraph -/
def laws_markGraph.sg : Sg := ⟨[(1, [.t 6 1, .t 2 1, .t 1 1]), (0, [.v])], [(0, [.v])], []⟩
def laws_markGraph.txt (C : Ctx) (a0 : Value) (c0 c1 c2 : List T) (K : J2) : Prop :=
 cl2 C 147 laws_markNodeS.sg [a0] [c0] fun v1 d2 =>
 cl2 C 89 laws_markWeakS.sg [(nx v1 0)] [c1] fun v3 d4 =>
 cl2 C 90 laws_markStringS.sg [(nx v3 0)] [c2] fun v5 d6 =>
 K [(nx v5 0)] [(nxc d2 0), (nxc d4 0), (nxc d6 0)]
theorem laws_markGraph.cl2 {w0 : World} {a0 : Value} {c0 c1 c2 : List T} {K : J2} (h : laws_markGraph.txt ⟨Try.prog, w0⟩ a0 c0 c1 c2 K) : Eng.cl2 ⟨Try.prog, w0⟩ 68 laws_markGraph.sg [a0] [c0, c1, c2] K :=
  cl2_of_run (C := ⟨Try.prog, w0⟩) (f := 68) (fn := Try.f68) [(147, laws_markNodeS.sg), (89, laws_markWeakS.sg), (90, laws_markStringS.sg)] [] [] Try.func68 (by kernel_rfl) (by kernel_rfl) (by kernel_rfl) h
/-- laws.heldNodeS -/
def laws_heldNodeS.sg : Sg := ⟨[(0, [.t 6 0]), (0, [.v])], [(0, [.v])], []⟩
def laws_heldNodeS.txt (C : Ctx) (a0 : Value) (c0 : List T) (K : J2) : Prop :=
 loopP (fun r3 x1 k2 =>
 prP (bnI .lss (nx x1 1) (iv (cnt 6 c0))) fun t9_5 =>
 cndP t9_5 (
 ixW (cnt 6 c0) (nx x1 1) fun t14_6 =>
 ldc c0 [] ((natOf t14_6) * 6) fun t16_7 =>
 prP (bnI .rem (nx x1 0) (.int .i64 3)) fun t18_8 =>
 prP (bnI .eql t18_8 (.int .i64 0)) fun t19_9 =>
 prP (bnB .neq t16_7 t19_9) fun t20_10 =>
 cndP t20_10 (
 K [(.int .i64 (-1))] []) (
 prP (bnI .add (nx x1 0) (.int .i64 1)) fun t22_11 =>
 ixW (cnt 6 c0) (nx x1 1) fun t25_12 =>
 ldc c0 [] (((natOf t25_12) * 6) + 1) fun t27_13 =>
 prP (bnI .neq t27_13 t22_11) fun t29_14 =>
 cndP t29_14 (
 K [(.int .i64 (-1))] []) (
 prP (bnI .add t22_11 (.int .i64 1)) fun t31_15 =>
 ixW (cnt 6 c0) (nx x1 1) fun t34_16 =>
 ldc c0 [] (((natOf t34_16) * 6) + 2) fun t36_17 =>
 prP (bnI .neq t36_17 t31_15) fun t38_18 =>
 cndP t38_18 (
 K [(.int .i64 (-1))] []) (
 prP (bnI .add t31_15 (.int .i64 1)) fun t40_19 =>
 ixW (cnt 6 c0) (nx x1 1) fun t43_20 =>
 ldc c0 [] (((natOf t43_20) * 6) + 3) fun t45_21 =>
 prP (bnI .neq t45_21 t40_19) fun t47_22 =>
 cndP t47_22 (
 K [(.int .i64 (-1))] []) (
 prP (bnI .add t40_19 (.int .i64 1)) fun t49_23 =>
 ixW (cnt 6 c0) (nx x1 1) fun t52_24 =>
 ldc c0 [] (((natOf t52_24) * 6) + 4) fun t54_25 =>
 prP (bnI .neq t54_25 t49_23) fun t56_26 =>
 cndP t56_26 (
 K [(.int .i64 (-1))] []) (
 prP (bnI .add t49_23 (.int .i64 1)) fun t58_27 =>
 ixW (cnt 6 c0) (nx x1 1) fun t61_28 =>
 ldl c0 [] (((natOf t61_28) * 6) + 5) 1 fun t63_29 =>
 cl2 C 21 laws_heldIntS.sg [t58_27] [(subN c0 [(((natOf t61_28) * 6) + 5)])] fun v30 d31 =>
 prP (bnI .lss (nx v30 0) (.int .i64 0)) fun t67_33 =>
 cndP t67_33 (
 K [(.int .i64 (-1))] []) (
 prP (bnI .add (nx x1 1) (.int .i64 1)) fun t11_34 =>
 r3 [(nx v30 0), t11_34] []))))))) (
 K [(nx x1 0)] [])) [a0, (.int .i64 0)] []
theorem laws_heldNodeS.cl2 {w0 : World} {a0 : Value} {c0 : List T} {K : J2} (h : laws_heldNodeS.txt ⟨Try.prog, w0⟩ a0 c0 K) : Eng.cl2 ⟨Try.prog, w0⟩ 148 laws_heldNodeS.sg [a0] [c0] K :=
  cl2_of_run (C := ⟨Try.prog, w0⟩) (f := 148) (fn := Try.f148) [(21, laws_heldIntS.sg)] [] [(26, ⟨[.t (.f 0) 6, .v, .v], [], []⟩)] Try.func148 (by kernel_rfl) (by kernel_rfl) (by kernel_rfl) h
/-- laws.heldGraph -/
def laws_heldGraph.sg : Sg := ⟨[(1, [.t 6 0, .t 2 0, .t 1 0]), (0, [.v])], [(0, [.v])], []⟩
def laws_heldGraph.txt (C : Ctx) (a0 : Value) (c0 c1 c2 : List T) (K : J2) : Prop :=
 cl2 C 148 laws_heldNodeS.sg [a0] [c0] fun v1 d2 =>
 prP (bnI .lss (nx v1 0) (.int .i64 0)) fun t10_4 =>
 cndP t10_4 (
 K [(.int .i64 (-1))] []) (
 cl2 C 133 laws_heldWeakS.sg [(nx v1 0)] [c1] fun v5 d6 =>
 prP (bnI .lss (nx v5 0) (.int .i64 0)) fun t16_8 =>
 cndP t16_8 (
 K [(.int .i64 (-1))] []) (
 cl2 C 104 laws_heldStringS.sg [(nx v5 0)] [c2] fun v9 d10 =>
 prP (bnI .lss (nx v9 0) (.int .i64 0)) fun t22_12 =>
 cndP t22_12 (
 K [(.int .i64 (-1))] []) (
 K [(nx v9 0)] [])))
theorem laws_heldGraph.cl2 {w0 : World} {a0 : Value} {c0 c1 c2 : List T} {K : J2} (h : laws_heldGraph.txt ⟨Try.prog, w0⟩ a0 c0 c1 c2 K) : Eng.cl2 ⟨Try.prog, w0⟩ 69 laws_heldGraph.sg [a0] [c0, c1, c2] K :=
  cl2_of_run (C := ⟨Try.prog, w0⟩) (f := 69) (fn := Try.f69) [(148, laws_heldNodeS.sg), (133, laws_heldWeakS.sg), (104, laws_heldStringS.sg)] [] [] Try.func69 (by kernel_rfl) (by kernel_rfl) (by kernel_rfl) h
/-- laws.FnExactGraphOf -/
def laws_FnExactGraphOf.sg : Sg := ⟨[(1, [.t 8 0, .t 2 0, .t 1 0, .t 1 0])], [(0, [.v])], []⟩
def laws_FnExactGraphOf.txt (C : Ctx) (c0 c1 c2 c3 : List T) (K : J2) : Prop :=
 cl2 C 13 laws_szHeap.sg [(.int .i64 1048576)] [c0, c1, c2, c3] fun v1 d2 =>
 prP (bnI .lss (nx v1 0) (.int .i64 0)) fun t15_4 =>
 cndP t15_4 (
 K [(.bool true)] []) (
 cl2 C 15 laws_toHeap.sg [] [c0, c1, c2, c3] fun v5 d6 =>
 cl2 C 65 spec_GraphOf.sg [] [(nxc d6 0), (nxc d6 1), (nxc d6 2), (nxc d6 3)] fun v7 d8 =>
 cl2 C 15 laws_toHeap.sg [] [c0, c1, c2, c3] fun v9 d10 =>
 cl2 C 66 impl_GraphOf.sg [] [(nxc d10 0), (nxc d10 1), (nxc d10 2), (nxc d10 3)] fun v11 d12 =>
 cl2 C 67 laws_eqGraph.sg [] [(nxc d12 0), (nxc d12 1), (nxc d12 2), (nxc d8 0), (nxc d8 1), (nxc d8 2)] fun v13 d14 =>
 prP (un .not (nx v13 0)) fun t26_16 =>
 cndP t26_16 (
 K [(.bool false)] []) (
 cl2 C 15 laws_toHeap.sg [] [c0, c1, c2, c3] fun v17 d18 =>
 cl2 C 18 laws_eqHeap.sg [] [(nxc d10 0), (nxc d10 1), (nxc d10 2), (nxc d10 3), (nxc d18 0), (nxc d18 1), (nxc d18 2), (nxc d18 3)] fun v19 d20 =>
 prP (un .not (nx v19 0)) fun t31_22 =>
 cndP t31_22 (
 K [(.bool false)] []) (
 cl2 C 19 laws_markHeap.sg [(.int .i64 1)] [(nxc d10 0), (nxc d10 1), (nxc d10 2), (nxc d10 3)] fun v23 d24 =>
 prP (bnI .lss (nx v23 0) (.int .i64 0)) fun t36_25 =>
 gE t36_25 (
 gE t36_25 (
 gP t36_25 false ((fun K => cl2 C 67 laws_eqGraph.sg [] [(nxc d12 0), (nxc d12 1), (nxc d12 2), (nxc d8 0), (nxc d8 1), (nxc d8 2)] fun v26 d27 => K (nx v26 0))) fun t40_28 =>
 gP t36_25 false (prP (un .not t40_28)) fun t41_29 =>
 prP (pk t36_25 (.bool true) t41_29) fun t42_30 =>
 cndP t42_30 (
 K [(.bool false)] []) (
 cl2 C 68 laws_markGraph.sg [(.int .i64 1)] [(nxc d12 0), (nxc d12 1), (nxc d12 2)] fun v31 d32 =>
 cl2 C 69 laws_heldGraph.sg [(.int .i64 1)] [(nxc d32 0), (nxc d32 1), (nxc d32 2)] fun v33 d34 =>
 prP (bnI .lss (nx v33 0) (.int .i64 0)) fun t50_36 =>
 cndP t50_36 (
 K [(.bool false)] []) (
 prP (bnI .neq (nx v33 0) (nx v31 0)) fun t53_37 =>
 cndP t53_37 (
 K [(.bool false)] []) (
 cl2 C 15 laws_toHeap.sg [] [c0, c1, c2, c3] fun v38 d39 =>
 cl2 C 66 impl_GraphOf.sg [] [(nxc d39 0), (nxc d39 1), (nxc d39 2), (nxc d39 3)] fun v40 d41 =>
 cl2 C 67 laws_eqGraph.sg [] [(nxc d41 0), (nxc d41 1), (nxc d41 2), (nxc d8 0), (nxc d8 1), (nxc d8 2)] fun v42 d43 =>
 prP (un .not (nx v42 0)) fun t60_45 =>
 cndP t60_45 (
 K [(.bool false)] []) (
 cl2 C 69 laws_heldGraph.sg [(.int .i64 1)] [(nxc d32 0), (nxc d32 1), (nxc d32 2)] fun v46 d47 =>
 prP (bnI .lss (nx v46 0) (.int .i64 0)) fun t65_49 =>
 cndP t65_49 (
 K [(.bool false)] []) (
 prP (bnI .neq (nx v46 0) (nx v31 0)) fun t68_50 =>
 cndP t68_50 (
 K [(.bool false)] []) (
 K [(.bool true)] [])))))))))))
theorem laws_FnExactGraphOf.cl2 {w0 : World} {c0 c1 c2 c3 : List T} {K : J2} (h : laws_FnExactGraphOf.txt ⟨Try.prog, w0⟩ c0 c1 c2 c3 K) : Eng.cl2 ⟨Try.prog, w0⟩ 11 laws_FnExactGraphOf.sg [] [c0, c1, c2, c3] K :=
  cl2_of_run (C := ⟨Try.prog, w0⟩) (f := 11) (fn := Try.f11) [(13, laws_szHeap.sg), (15, laws_toHeap.sg), (65, spec_GraphOf.sg), (66, impl_GraphOf.sg), (67, laws_eqGraph.sg), (18, laws_eqHeap.sg), (19, laws_markHeap.sg), (68, laws_markGraph.sg), (69, laws_heldGraph.sg)] [(10, [0, 0, 2, 7, 15])] [] Try.func11 (by kernel_rfl) (by kernel_rfl) (by kernel_rfl) h
end Go.Proofs.Ytnhicpkhkaihoaa.P
