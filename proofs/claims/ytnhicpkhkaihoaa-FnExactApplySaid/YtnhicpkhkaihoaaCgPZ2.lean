/- A part of the proof. -/
import Derived.Test.YtnhicpkhkaihoaaChecked
import Derived.Test.YtnhicpkhkaihoaaCgPZ1
import Derived.KernelRfl
/- The functions of the code as the pure engine's texts, printed by my program gen2.py: each with its call. -/
namespace Go.Proofs.Ytnhicpkhkaihoaa.P
open Go Go.Proofs.Ytnhicpkhkaihoaa Go.Proofs.Ytnhicpkhkaihoaa.Eng
set_option linter.unusedVariables false
set_option maxRecDepth 100000
/-- laws.markAnswer -/
def laws_markAnswer.sg : Sg := ⟨[(1, [.v, .v, .t 1 1]), (0, [.v])], [(0, [.v])], []⟩
def laws_markAnswer.txt (C : Ctx) (a0 a1 a2 : Value) (c0 : List T) (K : J2) : Prop :=
 cl2 C 20 laws_markIntS.sg [a2] [c0] fun v1 d2 =>
 K [(nx v1 0)] [(nxc d2 0)]
theorem laws_markAnswer.cl2 {w0 : World} {a0 a1 a2 : Value} {c0 : List T} {K : J2} (h : laws_markAnswer.txt ⟨Try.prog, w0⟩ a0 a1 a2 c0 K) : Eng.cl2 ⟨Try.prog, w0⟩ 40 laws_markAnswer.sg [a0, a1, a2] [c0] K :=
  cl2_of_run (C := ⟨Try.prog, w0⟩) (f := 40) (fn := Try.f40) [(20, laws_markIntS.sg)] [] [] Try.func40 (by kernel_rfl) (by kernel_rfl) (by kernel_rfl) h
/-- laws.heldAnswer -/
def laws_heldAnswer.sg : Sg := ⟨[(1, [.v, .v, .t 1 0]), (0, [.v])], [(0, [.v])], []⟩
def laws_heldAnswer.txt (C : Ctx) (a0 a1 a2 : Value) (c0 : List T) (K : J2) : Prop :=
 cl2 C 21 laws_heldIntS.sg [a2] [c0] fun v1 d2 =>
 prP (bnI .lss (nx v1 0) (.int .i64 0)) fun t10_4 =>
 cndP t10_4 (
 K [(.int .i64 (-1))] []) (
 K [(nx v1 0)] [])
theorem laws_heldAnswer.cl2 {w0 : World} {a0 a1 a2 : Value} {c0 : List T} {K : J2} (h : laws_heldAnswer.txt ⟨Try.prog, w0⟩ a0 a1 a2 c0 K) : Eng.cl2 ⟨Try.prog, w0⟩ 41 laws_heldAnswer.sg [a0, a1, a2] [c0] K :=
  cl2_of_run (C := ⟨Try.prog, w0⟩) (f := 41) (fn := Try.f41) [(21, laws_heldIntS.sg)] [] [] Try.func41 (by kernel_rfl) (by kernel_rfl) (by kernel_rfl) h
/-- laws.heldStringS -/
def laws_heldStringS.sg : Sg := ⟨[(0, [.t 1 0]), (0, [.v])], [(0, [.v])], []⟩
def laws_heldStringS.txt (C : Ctx) (a0 : Value) (c0 : List T) (K : J2) : Prop :=
 loopP (fun r3 x1 k2 =>
 prP (bnI .lss (nx x1 1) (iv (cnt 1 c0))) fun t9_5 =>
 cndP t9_5 (
 ixW (cnt 1 c0) (nx x1 1) fun t14_6 =>
 ldc c0 [] ((natOf t14_6) * 1) fun t15_7 =>
 cl2 C 107 laws_markText.sg [(nx x1 0)] [] fun v8 d9 =>
 prP (bnS .neq t15_7 (nx v8 0)) fun t18_11 =>
 cndP t18_11 (
 K [(.int .i64 (-1))] []) (
 prP (bnI .add (nx x1 0) (.int .i64 1)) fun t20_12 =>
 prP (bnI .add (nx x1 1) (.int .i64 1)) fun t11_13 =>
 r3 [t20_12, t11_13] [])) (
 K [(nx x1 0)] [])) [a0, (.int .i64 0)] []
theorem laws_heldStringS.cl2 {w0 : World} {a0 : Value} {c0 : List T} {K : J2} (h : laws_heldStringS.txt ⟨Try.prog, w0⟩ a0 c0 K) : Eng.cl2 ⟨Try.prog, w0⟩ 104 laws_heldStringS.sg [a0] [c0] K :=
  cl2_of_run (C := ⟨Try.prog, w0⟩) (f := 104) (fn := Try.f104) [(107, laws_markText.sg)] [(4, [0, 0, 3, 7, 0, 16, 63])] [(26, ⟨[.t (.f 0) 1, .v, .v], [], []⟩)] Try.func104 (by kernel_rfl) (by kernel_rfl) (by kernel_rfl) h
/-- stringslite.HasPrefix -/
def stringslite_HasPrefix.sg : Sg := ⟨[(0, [.v]), (0, [.v])], [(0, [.v])], []⟩
def stringslite_HasPrefix.txt (C : Ctx) (a0 a1 : Value) (K : J2) : Prop :=
 prP (lnS a0) fun t6_1 =>
 prP (lnS a1) fun t8_2 =>
 prP (bnI .geq t6_1 t8_2) fun t9_3 =>
 gE t9_3 (
 gE t9_3 (
 gP t9_3 true (prP (lnS a1)) fun t13_4 =>
 gP t9_3 true (prP (scS a0 none (some t13_4))) fun t14_5 =>
 gE t9_3 (
 gP t9_3 true (prP (bnS .eql t14_5 a1)) fun t16_6 =>
 prP (pk t9_3 t16_6 (.bool false)) fun t17_7 =>
 K [t17_7] [])))
theorem stringslite_HasPrefix.cl2 {w0 : World} {a0 a1 : Value} {K : J2} (h : stringslite_HasPrefix.txt ⟨Try.prog, w0⟩ a0 a1 K) : Eng.cl2 ⟨Try.prog, w0⟩ 230 stringslite_HasPrefix.sg [a0, a1] [] K :=
  cl2_of_run (C := ⟨Try.prog, w0⟩) (f := 230) (fn := Try.f230) [] [] [] Try.func230 (by kernel_rfl) (by kernel_rfl) (by kernel_rfl) h
/-- stringslite.CutPrefix -/
def stringslite_CutPrefix.sg : Sg := ⟨[(0, [.v]), (0, [.v])], [(0, [.v]), (0, [.v])], []⟩
def stringslite_CutPrefix.txt (C : Ctx) (a0 a1 : Value) (K : J2) : Prop :=
 cl2 C 230 stringslite_HasPrefix.sg [a0, a1] [] fun v1 d2 =>
 prP (un .not (nx v1 0)) fun t9_4 =>
 cndP t9_4 (
 K [a0, (.bool false)] []) (
 prP (lnS a1) fun t13_5 =>
 prP (scS a0 (some t13_5) none) fun t14_6 =>
 K [t14_6, (.bool true)] [])
theorem stringslite_CutPrefix.cl2 {w0 : World} {a0 a1 : Value} {K : J2} (h : stringslite_CutPrefix.txt ⟨Try.prog, w0⟩ a0 a1 K) : Eng.cl2 ⟨Try.prog, w0⟩ 210 stringslite_CutPrefix.sg [a0, a1] [] K :=
  cl2_of_run (C := ⟨Try.prog, w0⟩) (f := 210) (fn := Try.f210) [(230, stringslite_HasPrefix.sg)] [] [] Try.func210 (by kernel_rfl) (by kernel_rfl) (by kernel_rfl) h
/-- spec.l5Copy -/
def spec_l5Copy.sg : Sg := ⟨[(1, [.t 8 0, .t 2 0, .t 1 0, .t 1 0])], [(1, [.t 8, .t 2, .t 1, .t 1])], []⟩
def spec_l5Copy.txt (C : Ctx) (c0 c1 c2 c3 : List T) (K : J2) : Prop :=
 apW c1 true (cnt 2 []) (cnt 2 c1) 16 (
 apW c2 true (cnt 1 []) (cnt 1 c2) 8 (
 apW c3 true (cnt 1 []) (cnt 1 c3) 16 (
 loopP (fun r3 x1 k2 =>
 prP (bnI .lss (nx x1 0) (iv (cnt 8 c0))) fun t23_10 =>
 cndP t23_10 (
 ixW (cnt 8 c0) (nx x1 0) fun t29_11 =>
 ldg c0 [] ((natOf t29_11) * 8) [.c, .c, .c, .c, .c, .c, .l 1, .c] fun ts12 =>
 apW (subN c0 [(((natOf t29_11) * 8) + 6)]) true (cnt 1 []) (cnt 1 (subN c0 [(((natOf t29_11) * 8) + 6)])) 8 (
 apW [T.c (tv (nxT ts12 0)), T.c (tv (nxT ts12 1)), T.c (tv (nxT ts12 2)), T.c (tv (nxT ts12 3)), T.c (tv (nxT ts12 4)), T.c (tv (nxT ts12 5)), T.l 1 ([] ++ (subN c0 [(((natOf t29_11) * 8) + 6)])), T.c (tv (nxT ts12 7))] false (cnt 8 (nxc k2 0)) (cnt 8 [T.c (tv (nxT ts12 0)), T.c (tv (nxT ts12 1)), T.c (tv (nxT ts12 2)), T.c (tv (nxT ts12 3)), T.c (tv (nxT ts12 4)), T.c (tv (nxT ts12 5)), T.l 1 ([] ++ (subN c0 [(((natOf t29_11) * 8) + 6)])), T.c (tv (nxT ts12 7))]) 80 (
 prP (bnI .add (nx x1 0) (.int .i64 1)) fun t25_13 =>
 r3 [t25_13] [((nxc k2 0) ++ [T.c (tv (nxT ts12 0)), T.c (tv (nxT ts12 1)), T.c (tv (nxT ts12 2)), T.c (tv (nxT ts12 3)), T.c (tv (nxT ts12 4)), T.c (tv (nxT ts12 5)), T.l 1 ([] ++ (subN c0 [(((natOf t29_11) * 8) + 6)])), T.c (tv (nxT ts12 7))]), (nxc k2 1), (nxc k2 2), (nxc k2 3)]))) (
 K [] [(nxc k2 0), (nxc k2 1), (nxc k2 2), (nxc k2 3)])) [(.int .i64 0)] [[], ([] ++ c1), ([] ++ c2), ([] ++ c3)])))
theorem spec_l5Copy.cl2 {w0 : World} {c0 c1 c2 c3 : List T} {K : J2} (h : spec_l5Copy.txt ⟨Try.prog, w0⟩ c0 c1 c2 c3 K) : Eng.cl2 ⟨Try.prog, w0⟩ 134 spec_l5Copy.sg [] [c0, c1, c2, c3] K :=
  cl2_of_run (C := ⟨Try.prog, w0⟩) (f := 134) (fn := Try.f134) [] [(1, [0, 0, 2, 7, 0, 0, 32, 127, 0, 0, 512, 2047, 4095, 0, 16383])] [(58, ⟨[.p (.j 0) 0, .p (.j 1) 0, .p (.j 2) 0, .v], [], [.bx [.t (.f 0) 8, .t (.f 1) 2, .t (.f 2) 1, .t (.f 3) 1], .bx [.z, .z, .z, .z], .bx [.t (.j 3) 8, .t (.j 4) 2, .t (.j 5) 1, .t (.j 6) 1], .ls, .ls, .ls, .ls]⟩)] Try.func134 (by kernel_rfl) (by kernel_rfl) (by kernel_rfl) h
/-- spec.InEdges -/
def spec_InEdges.sg : Sg := ⟨[(1, [.t 8 0, .t 2 0, .t 1 0, .t 1 0]), (0, [.v])], [(0, [.v])], []⟩
def spec_InEdges.txt (C : Ctx) (a0 : Value) (c0 c1 c2 c3 : List T) (K : J2) : Prop :=
 prP (bnI .sub (iv (cnt 8 c0)) (.int .i64 1)) fun t13_1 =>
 cl2 C 154 spec_l1In.sg [a0, (.int .i64 0), t13_1] [] fun v2 d3 =>
 prP (un .not (nx v2 0)) fun t15_5 =>
 gE t15_5 (
 gE t15_5 (
 gE t15_5 (
 gP t15_5 false (ixW (cnt 8 c0) a0) fun t20_6 =>
 gE t15_5 (
 gP t15_5 false (ldc c0 [] ((natOf t20_6) * 8)) fun t22_7 =>
 gP t15_5 false (prP (un .not t22_7)) fun t23_8 =>
 prP (pk t15_5 (.bool true) t23_8) fun t24_9 =>
 cndP t24_9 (
 K [(.int .i64 0)] []) (
 ixW (cnt 8 c0) a0 fun t29_10 =>
 ldc c0 [] (((natOf t29_10) * 8) + 1) fun t31_11 =>
 cl2 C 79 spec_IdOf.sg [a0, t31_11] [] fun v12 d13 =>
 loopP (fun r17 x15 k16 =>
 prP (bnI .lss (nx x15 2) (iv (cnt 8 c0))) fun t37_19 =>
 cndP t37_19 (
 loopP (fun r22 x20 k21 =>
 ixW (cnt 8 c0) (nx x20 2) fun t44_24 =>
 ldl c0 [] (((natOf t44_24) * 8) + 6) 1 fun t46_25 =>
 prP (bnI .lss (nx x20 3) (iv (cnt 1 (subN c0 [(((natOf t44_24) * 8) + 6)])))) fun t48_26 =>
 gE t48_26 (
 gE t48_26 (
 gE t48_26 (
 gP t48_26 true (ixW (cnt 8 c0) (nx x20 2)) fun t53_27 =>
 gE t48_26 (
 gP t48_26 true (ldc c0 [] ((natOf t53_27) * 8)) fun t55_28 =>
 prP (pk t48_26 t55_28 (.bool false)) fun t56_29 =>
 cndP t56_29 (
 joinP (fun x31 k32 =>
 prP (bnI .add (nx x31 3) (.int .i64 1)) fun t58_40 =>
 r22 [(nx x31 0), (nx x31 1), (nx x31 2), t58_40] []) fun j33 =>
 ixW (cnt 8 c0) (nx x20 2) fun t62_34 =>
 ldl c0 [] (((natOf t62_34) * 8) + 6) 1 fun t64_35 =>
 ixW (cnt 1 (subN c0 [(((natOf t62_34) * 8) + 6)])) (nx x20 3) fun t66_36 =>
 ldc c0 [(((natOf t62_34) * 8) + 6)] ((natOf t66_36) * 1) fun t67_37 =>
 prP (bnI .eql t67_37 (nx x20 1)) fun t69_38 =>
 cndP t69_38 (
 prP (bnI .add (nx x20 0) (.int .i64 1)) fun t71_39 =>
 j33 [t71_39, (nx x20 1), (nx x20 2), (nx x20 3)] []) (
 j33 [(nx x20 0), (nx x20 1), (nx x20 2), (nx x20 3)] [])) (
 prP (bnI .add (nx x20 2) (.int .i64 1)) fun t39_41 =>
 r17 [(nx x20 0), (nx x20 1), t39_41] [])))))) [(nx x15 0), (nx x15 1), (nx x15 2), (.int .i64 0)] []) (
 K [(nx x15 0)] [])) [(.int .i64 0), (nx v12 0), (.int .i64 0)] [])))))
theorem spec_InEdges.cl2 {w0 : World} {a0 : Value} {c0 c1 c2 c3 : List T} {K : J2} (h : spec_InEdges.txt ⟨Try.prog, w0⟩ a0 c0 c1 c2 c3 K) : Eng.cl2 ⟨Try.prog, w0⟩ 189 spec_InEdges.sg [a0] [c0, c1, c2, c3] K :=
  cl2_of_run (C := ⟨Try.prog, w0⟩) (f := 189) (fn := Try.f189) [(154, spec_l1In.sg), (79, spec_IdOf.sg)] [] [(64073, ⟨[.p (.j 0) 0, .v, .v, .v, .v], [], [.bx [.t (.f 0) 8, .t (.f 1) 2, .t (.f 2) 1, .t (.f 3) 1]]⟩), (16018, ⟨[.p (.j 0) 0, .v, .v, .v, .v], [], [.bx [.t (.f 0) 8, .t (.f 1) 2, .t (.f 2) 1, .t (.f 3) 1]]⟩), (250, ⟨[.p (.j 0) 0, .v, .v, .v], [], [.bx [.t (.f 0) 8, .t (.f 1) 2, .t (.f 2) 1, .t (.f 3) 1]]⟩)] Try.func189 (by kernel_rfl) (by kernel_rfl) (by kernel_rfl) h
/-- spec.l5Has -/
def spec_l5Has.sg : Sg := ⟨[(0, [.t 1 0]), (0, [.v])], [(0, [.v])], []⟩
def spec_l5Has.txt (C : Ctx) (a0 : Value) (c0 : List T) (K : J2) : Prop :=
 loopP (fun r3 x1 k2 =>
 prP (bnI .lss (nx x1 1) (iv (cnt 1 c0))) fun t9_5 =>
 cndP t9_5 (
 ixW (cnt 1 c0) (nx x1 1) fun t14_6 =>
 ldc c0 [] ((natOf t14_6) * 1) fun t15_7 =>
 prP (bnI .eql t15_7 (nx x1 0)) fun t17_8 =>
 cndP t17_8 (
 K [(.bool true)] []) (
 prP (bnI .add (nx x1 1) (.int .i64 1)) fun t11_9 =>
 r3 [(nx x1 0), t11_9] [])) (
 K [(.bool false)] [])) [a0, (.int .i64 0)] []
theorem spec_l5Has.cl2 {w0 : World} {a0 : Value} {c0 : List T} {K : J2} (h : spec_l5Has.txt ⟨Try.prog, w0⟩ a0 c0 K) : Eng.cl2 ⟨Try.prog, w0⟩ 190 spec_l5Has.sg [a0] [c0] K :=
  cl2_of_run (C := ⟨Try.prog, w0⟩) (f := 190) (fn := Try.f190) [] [] [(26, ⟨[.t (.f 0) 1, .v, .v], [], []⟩)] Try.func190 (by kernel_rfl) (by kernel_rfl) (by kernel_rfl) h
end Go.Proofs.Ytnhicpkhkaihoaa.P
