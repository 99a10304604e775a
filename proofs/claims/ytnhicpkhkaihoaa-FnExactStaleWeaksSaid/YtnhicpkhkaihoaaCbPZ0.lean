/- The functions of the code as the pure engine's texts, printed by my program gen2.py: each with its call. -/
import Derived.Test.YtnhicpkhkaihoaaChecked
import Derived.Test.YtnhicpkhkaihoaaCbEngM5
import Derived.KernelRfl
namespace Go.Proofs.Ytnhicpkhkaihoaa.P
open Go Go.Proofs.Ytnhicpkhkaihoaa Go.Proofs.Ytnhicpkhkaihoaa.Eng
set_option linter.unusedVariables false
set_option maxRecDepth 100000
/-- laws.szIntS -/
def laws_szIntS.sg : Sg := ⟨[(0, [.t 1 0]), (0, [.v])], [(0, [.v])], []⟩
def laws_szIntS.txt (C : Ctx) (a0 : Value) (c0 : List T) (K : J2) : Prop :=
 prP (bnI .sub a0 (iv (cnt 1 c0))) fun t8_1 =>
 prP (bnI .lss t8_1 (.int .i64 0)) fun t10_2 =>
 cndP t10_2 (
 K [(.int .i64 (-1))] []) (
 K [t8_1] [])
theorem laws_szIntS.cl2 {w0 : World} {a0 : Value} {c0 : List T} {K : J2} (h : laws_szIntS.txt ⟨Try.prog, w0⟩ a0 c0 K) : Eng.cl2 ⟨Try.prog, w0⟩ 77 laws_szIntS.sg [a0] [c0] K :=
  cl2_of_run (C := ⟨Try.prog, w0⟩) (f := 77) (fn := Try.f77) [] [] [] Try.func77 (by kernel_rfl) (by kernel_rfl) (by kernel_rfl) h
/-- laws.szObj -/
def laws_szObj.sg : Sg := ⟨[(1, [.v, .v, .v, .v, .v, .v, .t 1 0, .v]), (0, [.v])], [(0, [.v])], []⟩
def laws_szObj.txt (C : Ctx) (a0 a1 a2 a3 a4 a5 a6 a7 : Value) (c0 : List T) (K : J2) : Prop :=
 cl2 C 77 laws_szIntS.sg [a7] [c0] fun v1 d2 =>
 prP (bnI .lss (nx v1 0) (.int .i64 0)) fun t10_4 =>
 cndP t10_4 (
 K [(.int .i64 (-1))] []) (
 K [(nx v1 0)] [])
theorem laws_szObj.cl2 {w0 : World} {a0 a1 a2 a3 a4 a5 a6 a7 : Value} {c0 : List T} {K : J2} (h : laws_szObj.txt ⟨Try.prog, w0⟩ a0 a1 a2 a3 a4 a5 a6 a7 c0 K) : Eng.cl2 ⟨Try.prog, w0⟩ 153 laws_szObj.sg [a0, a1, a2, a3, a4, a5, a6, a7] [c0] K :=
  cl2_of_run (C := ⟨Try.prog, w0⟩) (f := 153) (fn := Try.f153) [(77, laws_szIntS.sg)] [] [] Try.func153 (by kernel_rfl) (by kernel_rfl) (by kernel_rfl) h
/-- laws.szObjS -/
def laws_szObjS.sg : Sg := ⟨[(0, [.t 8 0]), (0, [.v])], [(0, [.v])], []⟩
def laws_szObjS.txt (C : Ctx) (a0 : Value) (c0 : List T) (K : J2) : Prop :=
 prP (bnI .sub a0 (iv (cnt 8 c0))) fun t9_1 =>
 prP (bnI .lss t9_1 (.int .i64 0)) fun t11_2 =>
 cndP t11_2 (
 K [(.int .i64 (-1))] []) (
 loopP (fun r5 x3 k4 =>
 prP (bnI .lss (nx x3 1) (iv (cnt 8 c0))) fun t15_7 =>
 cndP t15_7 (
 ixW (cnt 8 c0) (nx x3 1) fun t20_8 =>
 ldg c0 [] ((natOf t20_8) * 8) [.c, .c, .c, .c, .c, .c, .l 1, .c] fun ts9 =>
 cl2 C 153 laws_szObj.sg [(tv (nxT ts9 0)), (tv (nxT ts9 1)), (tv (nxT ts9 2)), (tv (nxT ts9 3)), (tv (nxT ts9 4)), (tv (nxT ts9 5)), (tv (nxT ts9 7)), (nx x3 0)] [(subN c0 [(((natOf t20_8) * 8) + 6)])] fun v10 d11 =>
 prP (bnI .lss (nx v10 0) (.int .i64 0)) fun t25_13 =>
 cndP t25_13 (
 K [(.int .i64 (-1))] []) (
 prP (bnI .add (nx x3 1) (.int .i64 1)) fun t17_14 =>
 r5 [(nx v10 0), t17_14] [])) (
 K [(nx x3 0)] [])) [t9_1, (.int .i64 0)] [])
theorem laws_szObjS.cl2 {w0 : World} {a0 : Value} {c0 : List T} {K : J2} (h : laws_szObjS.txt ⟨Try.prog, w0⟩ a0 c0 K) : Eng.cl2 ⟨Try.prog, w0⟩ 75 laws_szObjS.sg [a0] [c0] K :=
  cl2_of_run (C := ⟨Try.prog, w0⟩) (f := 75) (fn := Try.f75) [(153, laws_szObj.sg)] [] [(122, ⟨[.t (.f 0) 8, .v, .v], [], []⟩)] Try.func75 (by kernel_rfl) (by kernel_rfl) (by kernel_rfl) h
/-- laws.szWeakS -/
def laws_szWeakS.sg : Sg := ⟨[(0, [.t 2 0]), (0, [.v])], [(0, [.v])], []⟩
def laws_szWeakS.txt (C : Ctx) (a0 : Value) (c0 : List T) (K : J2) : Prop :=
 prP (bnI .sub a0 (iv (cnt 2 c0))) fun t8_1 =>
 prP (bnI .lss t8_1 (.int .i64 0)) fun t10_2 =>
 cndP t10_2 (
 K [(.int .i64 (-1))] []) (
 K [t8_1] [])
theorem laws_szWeakS.cl2 {w0 : World} {a0 : Value} {c0 : List T} {K : J2} (h : laws_szWeakS.txt ⟨Try.prog, w0⟩ a0 c0 K) : Eng.cl2 ⟨Try.prog, w0⟩ 76 laws_szWeakS.sg [a0] [c0] K :=
  cl2_of_run (C := ⟨Try.prog, w0⟩) (f := 76) (fn := Try.f76) [] [] [] Try.func76 (by kernel_rfl) (by kernel_rfl) (by kernel_rfl) h
/-- laws.szStringS -/
def laws_szStringS.sg : Sg := ⟨[(0, [.t 1 0]), (0, [.v])], [(0, [.v])], []⟩
def laws_szStringS.txt (C : Ctx) (a0 : Value) (c0 : List T) (K : J2) : Prop :=
 prP (bnI .sub a0 (iv (cnt 1 c0))) fun t9_1 =>
 prP (bnI .lss t9_1 (.int .i64 0)) fun t11_2 =>
 cndP t11_2 (
 K [(.int .i64 (-1))] []) (
 loopP (fun r5 x3 k4 =>
 prP (bnI .lss (nx x3 1) (iv (cnt 1 c0))) fun t15_7 =>
 cndP t15_7 (
 ixW (cnt 1 c0) (nx x3 1) fun t21_8 =>
 ldc c0 [] ((natOf t21_8) * 1) fun t22_9 =>
 prP (lnS t22_9) fun t23_10 =>
 prP (bnI .sub (nx x3 0) t23_10) fun t24_11 =>
 prP (bnI .lss t24_11 (.int .i64 0)) fun t26_12 =>
 cndP t26_12 (
 K [(.int .i64 (-1))] []) (
 prP (bnI .add (nx x3 1) (.int .i64 1)) fun t17_13 =>
 r5 [t24_11, t17_13] [])) (
 K [(nx x3 0)] [])) [t9_1, (.int .i64 0)] [])
theorem laws_szStringS.cl2 {w0 : World} {a0 : Value} {c0 : List T} {K : J2} (h : laws_szStringS.txt ⟨Try.prog, w0⟩ a0 c0 K) : Eng.cl2 ⟨Try.prog, w0⟩ 78 laws_szStringS.sg [a0] [c0] K :=
  cl2_of_run (C := ⟨Try.prog, w0⟩) (f := 78) (fn := Try.f78) [] [] [(122, ⟨[.t (.f 0) 1, .v, .v], [], []⟩)] Try.func78 (by kernel_rfl) (by kernel_rfl) (by kernel_rfl) h
/-- laws.szHeap -/
def laws_szHeap.sg : Sg := ⟨[(1, [.t 8 0, .t 2 0, .t 1 0, .t 1 0]), (0, [.v])], [(0, [.v])], []⟩
def laws_szHeap.txt (C : Ctx) (a0 : Value) (c0 c1 c2 c3 : List T) (K : J2) : Prop :=
 cl2 C 75 laws_szObjS.sg [a0] [c0] fun v1 d2 =>
 prP (bnI .lss (nx v1 0) (.int .i64 0)) fun t10_4 =>
 cndP t10_4 (
 K [(.int .i64 (-1))] []) (
 cl2 C 76 laws_szWeakS.sg [(nx v1 0)] [c1] fun v5 d6 =>
 prP (bnI .lss (nx v5 0) (.int .i64 0)) fun t16_8 =>
 cndP t16_8 (
 K [(.int .i64 (-1))] []) (
 cl2 C 77 laws_szIntS.sg [(nx v5 0)] [c2] fun v9 d10 =>
 prP (bnI .lss (nx v9 0) (.int .i64 0)) fun t22_12 =>
 cndP t22_12 (
 K [(.int .i64 (-1))] []) (
 cl2 C 78 laws_szStringS.sg [(nx v9 0)] [c3] fun v13 d14 =>
 prP (bnI .lss (nx v13 0) (.int .i64 0)) fun t28_16 =>
 cndP t28_16 (
 K [(.int .i64 (-1))] []) (
 K [(nx v13 0)] []))))
theorem laws_szHeap.cl2 {w0 : World} {a0 : Value} {c0 c1 c2 c3 : List T} {K : J2} (h : laws_szHeap.txt ⟨Try.prog, w0⟩ a0 c0 c1 c2 c3 K) : Eng.cl2 ⟨Try.prog, w0⟩ 13 laws_szHeap.sg [a0] [c0, c1, c2, c3] K :=
  cl2_of_run (C := ⟨Try.prog, w0⟩) (f := 13) (fn := Try.f13) [(75, laws_szObjS.sg), (76, laws_szWeakS.sg), (77, laws_szIntS.sg), (78, laws_szStringS.sg)] [] [] Try.func13 (by kernel_rfl) (by kernel_rfl) (by kernel_rfl) h
/-- laws.toIntS -/
def laws_toIntS.sg : Sg := ⟨[(0, [.t 1 0])], [(0, [.t 1])], []⟩
def laws_toIntS.txt (C : Ctx) (c0 : List T) (K : J2) : Prop :=
 mkW 8 (iv (cnt 1 c0)) (iv (cnt 1 c0)) fun n1 =>
 loopP (fun r4 x2 k3 =>
 prP (bnI .lss (nx x2 0) (iv (cnt 1 c0))) fun t11_6 =>
 cndP t11_6 (
 ixW (cnt 1 c0) (nx x2 0) fun t18_7 =>
 ldc c0 [] ((natOf t18_7) * 1) fun t19_8 =>
 ixW (cnt 1 (nxc k3 0)) (nx x2 0) fun t20_9 =>
 stc (nxc k3 0) [] ((natOf t20_9) * 1) t19_8 fun k10 =>
 prP (bnI .add (nx x2 0) (.int .i64 1)) fun t13_11 =>
 r4 [t13_11] [k10]) (
 K [] [(nxc k3 0)])) [(.int .i64 0)] [(repT (natOf n1) [T.c (.int .i64 0)])]
theorem laws_toIntS.cl2 {w0 : World} {c0 : List T} {K : J2} (h : laws_toIntS.txt ⟨Try.prog, w0⟩ c0 K) : Eng.cl2 ⟨Try.prog, w0⟩ 82 laws_toIntS.sg [] [c0] K :=
  cl2_of_run (C := ⟨Try.prog, w0⟩) (f := 82) (fn := Try.f82) [] [] [(58, ⟨[.t (.f 0) 1, .t (.j 0) 1, .v], [], [.ls]⟩)] Try.func82 (by kernel_rfl) (by kernel_rfl) (by kernel_rfl) h
/-- laws.toObj -/
def laws_toObj.sg : Sg := ⟨[(1, [.v, .v, .v, .v, .v, .v, .t 1 0, .v])], [(1, [.v, .v, .v, .v, .v, .v, .t 1, .v])], []⟩
def laws_toObj.txt (C : Ctx) (a0 a1 a2 a3 a4 a5 a6 : Value) (c0 : List T) (K : J2) : Prop :=
 cl2 C 82 laws_toIntS.sg [] [c0] fun v1 d2 =>
 K [a0, a1, a2, a3, a4, a5, a6] [(nxc d2 0)]
theorem laws_toObj.cl2 {w0 : World} {a0 a1 a2 a3 a4 a5 a6 : Value} {c0 : List T} {K : J2} (h : laws_toObj.txt ⟨Try.prog, w0⟩ a0 a1 a2 a3 a4 a5 a6 c0 K) : Eng.cl2 ⟨Try.prog, w0⟩ 155 laws_toObj.sg [a0, a1, a2, a3, a4, a5, a6] [c0] K :=
  cl2_of_run (C := ⟨Try.prog, w0⟩) (f := 155) (fn := Try.f155) [(82, laws_toIntS.sg)] [] [] Try.func155 (by kernel_rfl) (by kernel_rfl) (by kernel_rfl) h
/-- laws.toObjS -/
def laws_toObjS.sg : Sg := ⟨[(0, [.t 8 0])], [(0, [.t 8])], []⟩
def laws_toObjS.txt (C : Ctx) (c0 : List T) (K : J2) : Prop :=
 mkW 80 (iv (cnt 8 c0)) (iv (cnt 8 c0)) fun n1 =>
 loopP (fun r4 x2 k3 =>
 prP (bnI .lss (nx x2 0) (iv (cnt 8 c0))) fun t11_6 =>
 cndP t11_6 (
 ixW (cnt 8 c0) (nx x2 0) fun t18_7 =>
 ldg c0 [] ((natOf t18_7) * 8) [.c, .c, .c, .c, .c, .c, .l 1, .c] fun ts8 =>
 cl2 C 155 laws_toObj.sg [(tv (nxT ts8 0)), (tv (nxT ts8 1)), (tv (nxT ts8 2)), (tv (nxT ts8 3)), (tv (nxT ts8 4)), (tv (nxT ts8 5)), (tv (nxT ts8 7))] [(subN c0 [(((natOf t18_7) * 8) + 6)])] fun v9 d10 =>
 ixW (cnt 8 (nxc k3 0)) (nx x2 0) fun t21_11 =>
 stg (nxc k3 0) [] ((natOf t21_11) * 8) [T.c (nx v9 0), T.c (nx v9 1), T.c (nx v9 2), T.c (nx v9 3), T.c (nx v9 4), T.c (nx v9 5), T.l 1 (nxc d10 0), T.c (nx v9 6)] fun k12 =>
 prP (bnI .add (nx x2 0) (.int .i64 1)) fun t13_13 =>
 r4 [t13_13] [k12]) (
 K [] [(nxc k3 0)])) [(.int .i64 0)] [(repT (natOf n1) [T.c (.bool false), T.c (.int .i64 0), T.c (.int .i64 0), T.c (.int .i64 0), T.c (.int .i64 0), T.c (.int .i64 0), T.l 1 [], T.c (.bool false)])]
theorem laws_toObjS.cl2 {w0 : World} {c0 : List T} {K : J2} (h : laws_toObjS.txt ⟨Try.prog, w0⟩ c0 K) : Eng.cl2 ⟨Try.prog, w0⟩ 80 laws_toObjS.sg [] [c0] K :=
  cl2_of_run (C := ⟨Try.prog, w0⟩) (f := 80) (fn := Try.f80) [(155, laws_toObj.sg)] [] [(58, ⟨[.t (.f 0) 8, .t (.j 0) 8, .v], [], [.ls]⟩)] Try.func80 (by kernel_rfl) (by kernel_rfl) (by kernel_rfl) h
/-- laws.toWeak -/
def laws_toWeak.sg : Sg := ⟨[(1, [.v, .v])], [(1, [.v, .v])], []⟩
def laws_toWeak.txt (C : Ctx) (a0 a1 : Value) (K : J2) : Prop :=
 K [a0, a1] []
theorem laws_toWeak.cl2 {w0 : World} {a0 a1 : Value} {K : J2} (h : laws_toWeak.txt ⟨Try.prog, w0⟩ a0 a1 K) : Eng.cl2 ⟨Try.prog, w0⟩ 156 laws_toWeak.sg [a0, a1] [] K :=
  cl2_of_run (C := ⟨Try.prog, w0⟩) (f := 156) (fn := Try.f156) [] [] [] Try.func156 (by kernel_rfl) (by kernel_rfl) (by kernel_rfl) h
/-- laws.toWeakS -/
def laws_toWeakS.sg : Sg := ⟨[(0, [.t 2 0])], [(0, [.t 2])], []⟩
def laws_toWeakS.txt (C : Ctx) (c0 : List T) (K : J2) : Prop :=
 mkW 16 (iv (cnt 2 c0)) (iv (cnt 2 c0)) fun n1 =>
 loopP (fun r4 x2 k3 =>
 prP (bnI .lss (nx x2 0) (iv (cnt 2 c0))) fun t11_6 =>
 cndP t11_6 (
 ixW (cnt 2 c0) (nx x2 0) fun t18_7 =>
 ldg c0 [] ((natOf t18_7) * 2) [.c, .c] fun ts8 =>
 cl2 C 156 laws_toWeak.sg [(tv (nxT ts8 0)), (tv (nxT ts8 1))] [] fun v9 d10 =>
 ixW (cnt 2 (nxc k3 0)) (nx x2 0) fun t21_11 =>
 stg (nxc k3 0) [] ((natOf t21_11) * 2) [T.c (nx v9 0), T.c (nx v9 1)] fun k12 =>
 prP (bnI .add (nx x2 0) (.int .i64 1)) fun t13_13 =>
 r4 [t13_13] [k12]) (
 K [] [(nxc k3 0)])) [(.int .i64 0)] [(repT (natOf n1) [T.c (.bool false), T.c (.int .i64 0)])]
theorem laws_toWeakS.cl2 {w0 : World} {c0 : List T} {K : J2} (h : laws_toWeakS.txt ⟨Try.prog, w0⟩ c0 K) : Eng.cl2 ⟨Try.prog, w0⟩ 81 laws_toWeakS.sg [] [c0] K :=
  cl2_of_run (C := ⟨Try.prog, w0⟩) (f := 81) (fn := Try.f81) [(156, laws_toWeak.sg)] [] [(58, ⟨[.t (.f 0) 2, .t (.j 0) 2, .v], [], [.ls]⟩)] Try.func81 (by kernel_rfl) (by kernel_rfl) (by kernel_rfl) h
/-- laws.toStringS -/
def laws_toStringS.sg : Sg := ⟨[(0, [.t 1 0])], [(0, [.t 1])], []⟩
def laws_toStringS.txt (C : Ctx) (c0 : List T) (K : J2) : Prop :=
 mkW 16 (iv (cnt 1 c0)) (iv (cnt 1 c0)) fun n1 =>
 loopP (fun r4 x2 k3 =>
 prP (bnI .lss (nx x2 0) (iv (cnt 1 c0))) fun t11_6 =>
 cndP t11_6 (
 ixW (cnt 1 c0) (nx x2 0) fun t18_7 =>
 ldc c0 [] ((natOf t18_7) * 1) fun t19_8 =>
 ixW (cnt 1 (nxc k3 0)) (nx x2 0) fun t20_9 =>
 stc (nxc k3 0) [] ((natOf t20_9) * 1) t19_8 fun k10 =>
 prP (bnI .add (nx x2 0) (.int .i64 1)) fun t13_11 =>
 r4 [t13_11] [k10]) (
 K [] [(nxc k3 0)])) [(.int .i64 0)] [(repT (natOf n1) [T.c (.string { data := #[] })])]
theorem laws_toStringS.cl2 {w0 : World} {c0 : List T} {K : J2} (h : laws_toStringS.txt ⟨Try.prog, w0⟩ c0 K) : Eng.cl2 ⟨Try.prog, w0⟩ 83 laws_toStringS.sg [] [c0] K :=
  cl2_of_run (C := ⟨Try.prog, w0⟩) (f := 83) (fn := Try.f83) [] [] [(58, ⟨[.t (.f 0) 1, .t (.j 0) 1, .v], [], [.ls]⟩)] Try.func83 (by kernel_rfl) (by kernel_rfl) (by kernel_rfl) h
/-- laws.toHeap -/
def laws_toHeap.sg : Sg := ⟨[(1, [.t 8 0, .t 2 0, .t 1 0, .t 1 0])], [(1, [.t 8, .t 2, .t 1, .t 1])], []⟩
def laws_toHeap.txt (C : Ctx) (c0 c1 c2 c3 : List T) (K : J2) : Prop :=
 cl2 C 80 laws_toObjS.sg [] [c0] fun v1 d2 =>
 cl2 C 81 laws_toWeakS.sg [] [c1] fun v3 d4 =>
 cl2 C 82 laws_toIntS.sg [] [c2] fun v5 d6 =>
 cl2 C 83 laws_toStringS.sg [] [c3] fun v7 d8 =>
 K [] [(nxc d2 0), (nxc d4 0), (nxc d6 0), (nxc d8 0)]
theorem laws_toHeap.cl2 {w0 : World} {c0 c1 c2 c3 : List T} {K : J2} (h : laws_toHeap.txt ⟨Try.prog, w0⟩ c0 c1 c2 c3 K) : Eng.cl2 ⟨Try.prog, w0⟩ 15 laws_toHeap.sg [] [c0, c1, c2, c3] K :=
  cl2_of_run (C := ⟨Try.prog, w0⟩) (f := 15) (fn := Try.f15) [(80, laws_toObjS.sg), (81, laws_toWeakS.sg), (82, laws_toIntS.sg), (83, laws_toStringS.sg)] [] [] Try.func15 (by kernel_rfl) (by kernel_rfl) (by kernel_rfl) h
/-- laws.eqIntS -/
def laws_eqIntS.sg : Sg := ⟨[(0, [.t 1 0]), (0, [.t 1 0])], [(0, [.v])], []⟩
def laws_eqIntS.txt (C : Ctx) (c0 c1 : List T) (K : J2) : Prop :=
 prP (bnI .neq (iv (cnt 1 c0)) (iv (cnt 1 c1))) fun t10_1 =>
 cndP t10_1 (
 K [(.bool false)] []) (
 loopP (fun r4 x2 k3 =>
 prP (bnI .lss (nx x2 0) (iv (cnt 1 c0))) fun t14_6 =>
 cndP t14_6 (
 ixW (cnt 1 c0) (nx x2 0) fun t19_7 =>
 ldc c0 [] ((natOf t19_7) * 1) fun t20_8 =>
 ixW (cnt 1 c1) (nx x2 0) fun t23_9 =>
 ldc c1 [] ((natOf t23_9) * 1) fun t24_10 =>
 prP (bnI .neq t20_8 t24_10) fun t25_11 =>
 cndP t25_11 (
 K [(.bool false)] []) (
 prP (bnI .add (nx x2 0) (.int .i64 1)) fun t16_12 =>
 r4 [t16_12] [])) (
 K [(.bool true)] [])) [(.int .i64 0)] [])
theorem laws_eqIntS.cl2 {w0 : World} {c0 c1 : List T} {K : J2} (h : laws_eqIntS.txt ⟨Try.prog, w0⟩ c0 c1 K) : Eng.cl2 ⟨Try.prog, w0⟩ 17 laws_eqIntS.sg [] [c0, c1] K :=
  cl2_of_run (C := ⟨Try.prog, w0⟩) (f := 17) (fn := Try.f17) [] [(6, [0, 0, 3, 7, 0, 0, 48, 112, 255])] [(58, ⟨[.t (.f 0) 1, .t (.f 1) 1, .v], [], []⟩)] Try.func17 (by kernel_rfl) (by kernel_rfl) (by kernel_rfl) h
/-- laws.eqObj -/
def laws_eqObj.sg : Sg := ⟨[(1, [.v, .v, .v, .v, .v, .v, .t 1 0, .v]), (1, [.v, .v, .v, .v, .v, .v, .t 1 0, .v])], [(0, [.v])], []⟩
def laws_eqObj.txt (C : Ctx) (a0 a1 a2 a3 a4 a5 a6 a7 a8 a9 a10 a11 a12 a13 : Value) (c0 c1 : List T) (K : J2) : Prop :=
 prP (bnB .neq a0 a7) fun t9_1 =>
 cndP t9_1 (
 K [(.bool false)] []) (
 prP (bnI .neq a1 a8) fun t14_2 =>
 cndP t14_2 (
 K [(.bool false)] []) (
 prP (bnI .neq a2 a9) fun t19_3 =>
 cndP t19_3 (
 K [(.bool false)] []) (
 prP (bnI .neq a3 a10) fun t24_4 =>
 cndP t24_4 (
 K [(.bool false)] []) (
 prP (bnI .neq a4 a11) fun t29_5 =>
 cndP t29_5 (
 K [(.bool false)] []) (
 prP (bnI .neq a5 a12) fun t34_6 =>
 cndP t34_6 (
 K [(.bool false)] []) (
 cl2 C 17 laws_eqIntS.sg [] [c0, c1] fun v7 d8 =>
 prP (un .not (nx v7 0)) fun t40_10 =>
 cndP t40_10 (
 K [(.bool false)] []) (
 prP (bnB .neq a6 a13) fun t45_11 =>
 cndP t45_11 (
 K [(.bool false)] []) (
 K [(.bool true)] []))))))))
theorem laws_eqObj.cl2 {w0 : World} {a0 a1 a2 a3 a4 a5 a6 a7 a8 a9 a10 a11 a12 a13 : Value} {c0 c1 : List T} {K : J2} (h : laws_eqObj.txt ⟨Try.prog, w0⟩ a0 a1 a2 a3 a4 a5 a6 a7 a8 a9 a10 a11 a12 a13 c0 c1 K) : Eng.cl2 ⟨Try.prog, w0⟩ 158 laws_eqObj.sg [a0, a1, a2, a3, a4, a5, a6, a7, a8, a9, a10, a11, a12, a13] [c0, c1] K :=
  cl2_of_run (C := ⟨Try.prog, w0⟩) (f := 158) (fn := Try.f158) [(17, laws_eqIntS.sg)] [] [] Try.func158 (by kernel_rfl) (by kernel_rfl) (by kernel_rfl) h
/-- laws.eqObjS -/
def laws_eqObjS.sg : Sg := ⟨[(0, [.t 8 0]), (0, [.t 8 0])], [(0, [.v])], []⟩
def laws_eqObjS.txt (C : Ctx) (c0 c1 : List T) (K : J2) : Prop :=
 prP (bnI .neq (iv (cnt 8 c0)) (iv (cnt 8 c1))) fun t10_1 =>
 cndP t10_1 (
 K [(.bool false)] []) (
 loopP (fun r4 x2 k3 =>
 prP (bnI .lss (nx x2 0) (iv (cnt 8 c0))) fun t14_6 =>
 cndP t14_6 (
 ixW (cnt 8 c0) (nx x2 0) fun t19_7 =>
 ldg c0 [] ((natOf t19_7) * 8) [.c, .c, .c, .c, .c, .c, .l 1, .c] fun ts8 =>
 ixW (cnt 8 c1) (nx x2 0) fun t23_9 =>
 ldg c1 [] ((natOf t23_9) * 8) [.c, .c, .c, .c, .c, .c, .l 1, .c] fun ts10 =>
 cl2 C 158 laws_eqObj.sg [(tv (nxT ts8 0)), (tv (nxT ts8 1)), (tv (nxT ts8 2)), (tv (nxT ts8 3)), (tv (nxT ts8 4)), (tv (nxT ts8 5)), (tv (nxT ts8 7)), (tv (nxT ts10 0)), (tv (nxT ts10 1)), (tv (nxT ts10 2)), (tv (nxT ts10 3)), (tv (nxT ts10 4)), (tv (nxT ts10 5)), (tv (nxT ts10 7))] [(subN c0 [(((natOf t19_7) * 8) + 6)]), (subN c1 [(((natOf t23_9) * 8) + 6)])] fun v11 d12 =>
 prP (un .not (nx v11 0)) fun t26_14 =>
 cndP t26_14 (
 K [(.bool false)] []) (
 prP (bnI .add (nx x2 0) (.int .i64 1)) fun t16_15 =>
 r4 [t16_15] [])) (
 K [(.bool true)] [])) [(.int .i64 0)] [])
theorem laws_eqObjS.cl2 {w0 : World} {c0 c1 : List T} {K : J2} (h : laws_eqObjS.txt ⟨Try.prog, w0⟩ c0 c1 K) : Eng.cl2 ⟨Try.prog, w0⟩ 85 laws_eqObjS.sg [] [c0, c1] K :=
  cl2_of_run (C := ⟨Try.prog, w0⟩) (f := 85) (fn := Try.f85) [(158, laws_eqObj.sg)] [(6, [0, 0, 3, 7, 0, 0, 48, 112, 255, 511])] [(58, ⟨[.t (.f 0) 8, .t (.f 1) 8, .v], [], []⟩)] Try.func85 (by kernel_rfl) (by kernel_rfl) (by kernel_rfl) h
/-- laws.eqWeak -/
def laws_eqWeak.sg : Sg := ⟨[(1, [.v, .v]), (1, [.v, .v])], [(0, [.v])], []⟩
def laws_eqWeak.txt (C : Ctx) (a0 a1 a2 a3 : Value) (K : J2) : Prop :=
 prP (bnB .neq a0 a2) fun t9_1 =>
 cndP t9_1 (
 K [(.bool false)] []) (
 prP (bnI .neq a1 a3) fun t14_2 =>
 cndP t14_2 (
 K [(.bool false)] []) (
 K [(.bool true)] []))
theorem laws_eqWeak.cl2 {w0 : World} {a0 a1 a2 a3 : Value} {K : J2} (h : laws_eqWeak.txt ⟨Try.prog, w0⟩ a0 a1 a2 a3 K) : Eng.cl2 ⟨Try.prog, w0⟩ 159 laws_eqWeak.sg [a0, a1, a2, a3] [] K :=
  cl2_of_run (C := ⟨Try.prog, w0⟩) (f := 159) (fn := Try.f159) [] [] [] Try.func159 (by kernel_rfl) (by kernel_rfl) (by kernel_rfl) h
/-- laws.eqWeakS -/
def laws_eqWeakS.sg : Sg := ⟨[(0, [.t 2 0]), (0, [.t 2 0])], [(0, [.v])], []⟩
def laws_eqWeakS.txt (C : Ctx) (c0 c1 : List T) (K : J2) : Prop :=
 prP (bnI .neq (iv (cnt 2 c0)) (iv (cnt 2 c1))) fun t10_1 =>
 cndP t10_1 (
 K [(.bool false)] []) (
 loopP (fun r4 x2 k3 =>
 prP (bnI .lss (nx x2 0) (iv (cnt 2 c0))) fun t14_6 =>
 cndP t14_6 (
 ixW (cnt 2 c0) (nx x2 0) fun t19_7 =>
 ldg c0 [] ((natOf t19_7) * 2) [.c, .c] fun ts8 =>
 ixW (cnt 2 c1) (nx x2 0) fun t23_9 =>
 ldg c1 [] ((natOf t23_9) * 2) [.c, .c] fun ts10 =>
 cl2 C 159 laws_eqWeak.sg [(tv (nxT ts8 0)), (tv (nxT ts8 1)), (tv (nxT ts10 0)), (tv (nxT ts10 1))] [] fun v11 d12 =>
 prP (un .not (nx v11 0)) fun t26_14 =>
 cndP t26_14 (
 K [(.bool false)] []) (
 prP (bnI .add (nx x2 0) (.int .i64 1)) fun t16_15 =>
 r4 [t16_15] [])) (
 K [(.bool true)] [])) [(.int .i64 0)] [])
theorem laws_eqWeakS.cl2 {w0 : World} {c0 c1 : List T} {K : J2} (h : laws_eqWeakS.txt ⟨Try.prog, w0⟩ c0 c1 K) : Eng.cl2 ⟨Try.prog, w0⟩ 86 laws_eqWeakS.sg [] [c0, c1] K :=
  cl2_of_run (C := ⟨Try.prog, w0⟩) (f := 86) (fn := Try.f86) [(159, laws_eqWeak.sg)] [(6, [0, 0, 3, 7, 0, 0, 48, 112, 255, 511])] [(58, ⟨[.t (.f 0) 2, .t (.f 1) 2, .v], [], []⟩)] Try.func86 (by kernel_rfl) (by kernel_rfl) (by kernel_rfl) h
/-- laws.eqStringS -/
def laws_eqStringS.sg : Sg := ⟨[(0, [.t 1 0]), (0, [.t 1 0])], [(0, [.v])], []⟩
def laws_eqStringS.txt (C : Ctx) (c0 c1 : List T) (K : J2) : Prop :=
 prP (bnI .neq (iv (cnt 1 c0)) (iv (cnt 1 c1))) fun t10_1 =>
 cndP t10_1 (
 K [(.bool false)] []) (
 loopP (fun r4 x2 k3 =>
 prP (bnI .lss (nx x2 0) (iv (cnt 1 c0))) fun t14_6 =>
 cndP t14_6 (
 ixW (cnt 1 c0) (nx x2 0) fun t19_7 =>
 ldc c0 [] ((natOf t19_7) * 1) fun t20_8 =>
 ixW (cnt 1 c1) (nx x2 0) fun t23_9 =>
 ldc c1 [] ((natOf t23_9) * 1) fun t24_10 =>
 prP (bnS .neq t20_8 t24_10) fun t25_11 =>
 cndP t25_11 (
 K [(.bool false)] []) (
 prP (bnI .add (nx x2 0) (.int .i64 1)) fun t16_12 =>
 r4 [t16_12] [])) (
 K [(.bool true)] [])) [(.int .i64 0)] [])
theorem laws_eqStringS.cl2 {w0 : World} {c0 c1 : List T} {K : J2} (h : laws_eqStringS.txt ⟨Try.prog, w0⟩ c0 c1 K) : Eng.cl2 ⟨Try.prog, w0⟩ 87 laws_eqStringS.sg [] [c0, c1] K :=
  cl2_of_run (C := ⟨Try.prog, w0⟩) (f := 87) (fn := Try.f87) [] [(6, [0, 0, 3, 7, 0, 0, 48, 112, 255])] [(58, ⟨[.t (.f 0) 1, .t (.f 1) 1, .v], [], []⟩)] Try.func87 (by kernel_rfl) (by kernel_rfl) (by kernel_rfl) h
/-- laws.eqHeap -/
def laws_eqHeap.sg : Sg := ⟨[(1, [.t 8 0, .t 2 0, .t 1 0, .t 1 0]), (1, [.t 8 0, .t 2 0, .t 1 0, .t 1 0])], [(0, [.v])], []⟩
def laws_eqHeap.txt (C : Ctx) (c0 c1 c2 c3 c4 c5 c6 c7 : List T) (K : J2) : Prop :=
 cl2 C 85 laws_eqObjS.sg [] [c0, c4] fun v1 d2 =>
 prP (un .not (nx v1 0)) fun t10_4 =>
 cndP t10_4 (
 K [(.bool false)] []) (
 cl2 C 86 laws_eqWeakS.sg [] [c1, c5] fun v5 d6 =>
 prP (un .not (nx v5 0)) fun t16_8 =>
 cndP t16_8 (
 K [(.bool false)] []) (
 cl2 C 17 laws_eqIntS.sg [] [c2, c6] fun v9 d10 =>
 prP (un .not (nx v9 0)) fun t22_12 =>
 cndP t22_12 (
 K [(.bool false)] []) (
 cl2 C 87 laws_eqStringS.sg [] [c3, c7] fun v13 d14 =>
 prP (un .not (nx v13 0)) fun t28_16 =>
 cndP t28_16 (
 K [(.bool false)] []) (
 K [(.bool true)] []))))
theorem laws_eqHeap.cl2 {w0 : World} {c0 c1 c2 c3 c4 c5 c6 c7 : List T} {K : J2} (h : laws_eqHeap.txt ⟨Try.prog, w0⟩ c0 c1 c2 c3 c4 c5 c6 c7 K) : Eng.cl2 ⟨Try.prog, w0⟩ 18 laws_eqHeap.sg [] [c0, c1, c2, c3, c4, c5, c6, c7] K :=
  cl2_of_run (C := ⟨Try.prog, w0⟩) (f := 18) (fn := Try.f18) [(85, laws_eqObjS.sg), (86, laws_eqWeakS.sg), (17, laws_eqIntS.sg), (87, laws_eqStringS.sg)] [] [] Try.func18 (by kernel_rfl) (by kernel_rfl) (by kernel_rfl) h
/-- laws.markIntS -/
def laws_markIntS.sg : Sg := ⟨[(0, [.t 1 1]), (0, [.v])], [(0, [.v])], []⟩
def laws_markIntS.txt (C : Ctx) (a0 : Value) (c0 : List T) (K : J2) : Prop :=
 loopP (fun r3 x1 k2 =>
 prP (bnI .lss (nx x1 1) (iv (cnt 1 (nxc k2 0)))) fun t9_5 =>
 cndP t9_5 (
 ixW (cnt 1 (nxc k2 0)) (nx x1 1) fun t15_6 =>
 stc (nxc k2 0) [] ((natOf t15_6) * 1) (nx x1 0) fun k7 =>
 prP (bnI .add (nx x1 0) (.int .i64 1)) fun t17_8 =>
 prP (bnI .add (nx x1 1) (.int .i64 1)) fun t11_9 =>
 r3 [t17_8, t11_9] [k7]) (
 K [(nx x1 0)] [(nxc k2 0)])) [a0, (.int .i64 0)] [c0]
theorem laws_markIntS.cl2 {w0 : World} {a0 : Value} {c0 : List T} {K : J2} (h : laws_markIntS.txt ⟨Try.prog, w0⟩ a0 c0 K) : Eng.cl2 ⟨Try.prog, w0⟩ 20 laws_markIntS.sg [a0] [c0] K :=
  cl2_of_run (C := ⟨Try.prog, w0⟩) (f := 20) (fn := Try.f20) [] [] [(26, ⟨[.t (.j 0) 1, .v, .v], [.t (.j 0) 1], [.ls]⟩)] Try.func20 (by kernel_rfl) (by kernel_rfl) (by kernel_rfl) h
/-- laws.markObjS -/
def laws_markObjS.sg : Sg := ⟨[(0, [.t 8 1]), (0, [.v])], [(0, [.v])], []⟩
def laws_markObjS.txt (C : Ctx) (a0 : Value) (c0 : List T) (K : J2) : Prop :=
 loopP (fun r3 x1 k2 =>
 prP (bnI .lss (nx x1 1) (iv (cnt 8 (nxc k2 0)))) fun t9_5 =>
 cndP t9_5 (
 prP (bnI .rem (nx x1 0) (.int .i64 3)) fun t15_6 =>
 prP (bnI .eql t15_6 (.int .i64 0)) fun t16_7 =>
 ixW (cnt 8 (nxc k2 0)) (nx x1 1) fun t17_8 =>
 stc (nxc k2 0) [] ((natOf t17_8) * 8) t16_7 fun k9 =>
 prP (bnI .add (nx x1 0) (.int .i64 1)) fun t20_10 =>
 ixW (cnt 8 k9) (nx x1 1) fun t24_11 =>
 stc k9 [] (((natOf t24_11) * 8) + 1) t20_10 fun k12 =>
 prP (bnI .add t20_10 (.int .i64 1)) fun t27_13 =>
 ixW (cnt 8 k12) (nx x1 1) fun t31_14 =>
 stc k12 [] (((natOf t31_14) * 8) + 2) t27_13 fun k15 =>
 prP (bnI .add t27_13 (.int .i64 1)) fun t34_16 =>
 ixW (cnt 8 k15) (nx x1 1) fun t38_17 =>
 stc k15 [] (((natOf t38_17) * 8) + 3) t34_16 fun k18 =>
 prP (bnI .add t34_16 (.int .i64 1)) fun t41_19 =>
 ixW (cnt 8 k18) (nx x1 1) fun t45_20 =>
 stc k18 [] (((natOf t45_20) * 8) + 4) t41_19 fun k21 =>
 prP (bnI .add t41_19 (.int .i64 1)) fun t48_22 =>
 ixW (cnt 8 k21) (nx x1 1) fun t52_23 =>
 stc k21 [] (((natOf t52_23) * 8) + 5) t48_22 fun k24 =>
 prP (bnI .add t48_22 (.int .i64 1)) fun t55_25 =>
 ixW (cnt 8 k24) (nx x1 1) fun t58_26 =>
 ldl k24 [] (((natOf t58_26) * 8) + 6) 1 fun t60_27 =>
 cl2 C 20 laws_markIntS.sg [t55_25] [(subN k24 [(((natOf t58_26) * 8) + 6)])] fun v28 d29 =>
 prP (bnI .rem (nx v28 0) (.int .i64 3)) fun t66_30 =>
 prP (bnI .eql t66_30 (.int .i64 0)) fun t67_31 =>
 ixW (cnt 8 (nput k24 [(((natOf t58_26) * 8) + 6)] (nxc d29 0))) (nx x1 1) fun t68_32 =>
 stc (nput k24 [(((natOf t58_26) * 8) + 6)] (nxc d29 0)) [] (((natOf t68_32) * 8) + 7) t67_31 fun k33 =>
 prP (bnI .add (nx v28 0) (.int .i64 1)) fun t71_34 =>
 prP (bnI .add (nx x1 1) (.int .i64 1)) fun t11_35 =>
 r3 [t71_34, t11_35] [k33]) (
 K [(nx x1 0)] [(nxc k2 0)])) [a0, (.int .i64 0)] [c0]
theorem laws_markObjS.cl2 {w0 : World} {a0 : Value} {c0 : List T} {K : J2} (h : laws_markObjS.txt ⟨Try.prog, w0⟩ a0 c0 K) : Eng.cl2 ⟨Try.prog, w0⟩ 88 laws_markObjS.sg [a0] [c0] K :=
  cl2_of_run (C := ⟨Try.prog, w0⟩) (f := 88) (fn := Try.f88) [(20, laws_markIntS.sg)] [] [(26, ⟨[.t (.j 0) 8, .v, .v], [.t (.j 0) 8], [.ls]⟩)] Try.func88 (by kernel_rfl) (by kernel_rfl) (by kernel_rfl) h
/-- laws.markWeakS -/
def laws_markWeakS.sg : Sg := ⟨[(0, [.t 2 1]), (0, [.v])], [(0, [.v])], []⟩
def laws_markWeakS.txt (C : Ctx) (a0 : Value) (c0 : List T) (K : J2) : Prop :=
 loopP (fun r3 x1 k2 =>
 prP (bnI .lss (nx x1 1) (iv (cnt 2 (nxc k2 0)))) fun t9_5 =>
 cndP t9_5 (
 prP (bnI .rem (nx x1 0) (.int .i64 3)) fun t15_6 =>
 prP (bnI .eql t15_6 (.int .i64 0)) fun t16_7 =>
 ixW (cnt 2 (nxc k2 0)) (nx x1 1) fun t17_8 =>
 stc (nxc k2 0) [] ((natOf t17_8) * 2) t16_7 fun k9 =>
 prP (bnI .add (nx x1 0) (.int .i64 1)) fun t20_10 =>
 ixW (cnt 2 k9) (nx x1 1) fun t24_11 =>
 stc k9 [] (((natOf t24_11) * 2) + 1) t20_10 fun k12 =>
 prP (bnI .add t20_10 (.int .i64 1)) fun t27_13 =>
 prP (bnI .add (nx x1 1) (.int .i64 1)) fun t11_14 =>
 r3 [t27_13, t11_14] [k12]) (
 K [(nx x1 0)] [(nxc k2 0)])) [a0, (.int .i64 0)] [c0]
theorem laws_markWeakS.cl2 {w0 : World} {a0 : Value} {c0 : List T} {K : J2} (h : laws_markWeakS.txt ⟨Try.prog, w0⟩ a0 c0 K) : Eng.cl2 ⟨Try.prog, w0⟩ 89 laws_markWeakS.sg [a0] [c0] K :=
  cl2_of_run (C := ⟨Try.prog, w0⟩) (f := 89) (fn := Try.f89) [] [] [(26, ⟨[.t (.j 0) 2, .v, .v], [.t (.j 0) 2], [.ls]⟩)] Try.func89 (by kernel_rfl) (by kernel_rfl) (by kernel_rfl) h
/-- laws.markText -/
def laws_markText.sg : Sg := ⟨[(0, [.v])], [(0, [.v])], []⟩
def laws_markText.txt (C : Ctx) (a0 : Value) (K : J2) : Prop :=
 prP (bnI .leq a0 (.int .i64 0)) fun t5_1 =>
 cndP t5_1 (
 K [(.string { data := #[109, 48] })] []) (
 loopP (fun r4 x2 k3 =>
 prP (bnI .gtr (nx x2 0) (.int .i64 0)) fun t7_6 =>
 cndP t7_6 (
 prP (bnI .rem (nx x2 0) (.int .i64 10)) fun t9_7 =>
 prP (bnI .add (.int .i64 48) t9_7) fun t10_8 =>
 prP (cvI .u8 t10_8) fun t11_9 =>
 prP (b2T [T.c t11_9]) fun t13_10 =>
 prP (bnS .add t13_10 (nx x2 1)) fun t15_11 =>
 prP (bnI .quo (nx x2 0) (.int .i64 10)) fun t17_12 =>
 r4 [t17_12, t15_11] []) (
 prP (bnS .add (.string { data := #[109] }) (nx x2 1)) fun t19_13 =>
 K [t19_13] [])) [a0, (.string { data := #[] })] [])
theorem laws_markText.cl2 {w0 : World} {a0 : Value} {K : J2} (h : laws_markText.txt ⟨Try.prog, w0⟩ a0 K) : Eng.cl2 ⟨Try.prog, w0⟩ 107 laws_markText.sg [a0] [] K :=
  cl2_of_run (C := ⟨Try.prog, w0⟩) (f := 107) (fn := Try.f107) [] [] [(60, ⟨[.v, .v], [], []⟩)] Try.func107 (by kernel_rfl) (by kernel_rfl) (by kernel_rfl) h
/-- laws.markStringS -/
def laws_markStringS.sg : Sg := ⟨[(0, [.t 1 1]), (0, [.v])], [(0, [.v])], []⟩
def laws_markStringS.txt (C : Ctx) (a0 : Value) (c0 : List T) (K : J2) : Prop :=
 loopP (fun r3 x1 k2 =>
 prP (bnI .lss (nx x1 1) (iv (cnt 1 (nxc k2 0)))) fun t9_5 =>
 cndP t9_5 (
 cl2 C 107 laws_markText.sg [(nx x1 0)] [] fun v6 d7 =>
 ixW (cnt 1 (nxc k2 0)) (nx x1 1) fun t16_9 =>
 stc (nxc k2 0) [] ((natOf t16_9) * 1) (nx v6 0) fun k10 =>
 prP (bnI .add (nx x1 0) (.int .i64 1)) fun t18_11 =>
 prP (bnI .add (nx x1 1) (.int .i64 1)) fun t11_12 =>
 r3 [t18_11, t11_12] [k10]) (
 K [(nx x1 0)] [(nxc k2 0)])) [a0, (.int .i64 0)] [c0]
theorem laws_markStringS.cl2 {w0 : World} {a0 : Value} {c0 : List T} {K : J2} (h : laws_markStringS.txt ⟨Try.prog, w0⟩ a0 c0 K) : Eng.cl2 ⟨Try.prog, w0⟩ 90 laws_markStringS.sg [a0] [c0] K :=
  cl2_of_run (C := ⟨Try.prog, w0⟩) (f := 90) (fn := Try.f90) [(107, laws_markText.sg)] [] [(26, ⟨[.t (.j 0) 1, .v, .v], [.t (.j 0) 1], [.ls]⟩)] Try.func90 (by kernel_rfl) (by kernel_rfl) (by kernel_rfl) h
/-- laws.markHeap -/
def laws_markHeap.sg : Sg := ⟨[(1, [.t 8 1, .t 2 1, .t 1 1, .t 1 1]), (0, [.v])], [(0, [.v])], []⟩
def laws_markHeap.txt (C : Ctx) (a0 : Value) (c0 c1 c2 c3 : List T) (K : J2) : Prop :=
 cl2 C 88 laws_markObjS.sg [a0] [c0] fun v1 d2 =>
 cl2 C 89 laws_markWeakS.sg [(nx v1 0)] [c1] fun v3 d4 =>
 cl2 C 20 laws_markIntS.sg [(nx v3 0)] [c2] fun v5 d6 =>
 cl2 C 90 laws_markStringS.sg [(nx v5 0)] [c3] fun v7 d8 =>
 K [(nx v7 0)] [(nxc d2 0), (nxc d4 0), (nxc d6 0), (nxc d8 0)]
theorem laws_markHeap.cl2 {w0 : World} {a0 : Value} {c0 c1 c2 c3 : List T} {K : J2} (h : laws_markHeap.txt ⟨Try.prog, w0⟩ a0 c0 c1 c2 c3 K) : Eng.cl2 ⟨Try.prog, w0⟩ 19 laws_markHeap.sg [a0] [c0, c1, c2, c3] K :=
  cl2_of_run (C := ⟨Try.prog, w0⟩) (f := 19) (fn := Try.f19) [(88, laws_markObjS.sg), (89, laws_markWeakS.sg), (20, laws_markIntS.sg), (90, laws_markStringS.sg)] [] [] Try.func19 (by kernel_rfl) (by kernel_rfl) (by kernel_rfl) h
/-- laws.heldIntS -/
def laws_heldIntS.sg : Sg := ⟨[(0, [.t 1 0]), (0, [.v])], [(0, [.v])], []⟩
def laws_heldIntS.txt (C : Ctx) (a0 : Value) (c0 : List T) (K : J2) : Prop :=
 loopP (fun r3 x1 k2 =>
 prP (bnI .lss (nx x1 1) (iv (cnt 1 c0))) fun t9_5 =>
 cndP t9_5 (
 ixW (cnt 1 c0) (nx x1 1) fun t14_6 =>
 ldc c0 [] ((natOf t14_6) * 1) fun t15_7 =>
 prP (bnI .neq t15_7 (nx x1 0)) fun t17_8 =>
 cndP t17_8 (
 K [(.int .i64 (-1))] []) (
 prP (bnI .add (nx x1 0) (.int .i64 1)) fun t19_9 =>
 prP (bnI .add (nx x1 1) (.int .i64 1)) fun t11_10 =>
 r3 [t19_9, t11_10] [])) (
 K [(nx x1 0)] [])) [a0, (.int .i64 0)] []
theorem laws_heldIntS.cl2 {w0 : World} {a0 : Value} {c0 : List T} {K : J2} (h : laws_heldIntS.txt ⟨Try.prog, w0⟩ a0 c0 K) : Eng.cl2 ⟨Try.prog, w0⟩ 21 laws_heldIntS.sg [a0] [c0] K :=
  cl2_of_run (C := ⟨Try.prog, w0⟩) (f := 21) (fn := Try.f21) [] [] [(26, ⟨[.t (.f 0) 1, .v, .v], [], []⟩)] Try.func21 (by kernel_rfl) (by kernel_rfl) (by kernel_rfl) h
/-- spec.SlotOf -/
def spec_SlotOf.sg : Sg := ⟨[(1, [.t 8 0, .t 2 0, .t 1 0, .t 1 0]), (0, [.v])], [(0, [.v])], []⟩
def spec_SlotOf.txt (C : Ctx) (a0 : Value) (c0 c1 c2 c3 : List T) (K : J2) : Prop :=
 prP (bnI .lss a0 (.int .i64 8)) fun t7_1 =>
 gE t7_1 (
 gE t7_1 (
 gE t7_1 (
 gP t7_1 false (prP (bnI .neq (iv (cnt 8 c0)) (.int .i64 8))) fun t12_2 =>
 prP (pk t7_1 (.bool true) t12_2) fun t13_3 =>
 cndP t13_3 (
 K [(.int .i64 (-1))] []) (
 prP (bnI .rem a0 (.int .i64 8)) fun t15_4 =>
 ixW (cnt 8 c0) t15_4 fun t19_5 =>
 ldc c0 [] ((natOf t19_5) * 8) fun t21_6 =>
 prP (un .not t21_6) fun t22_7 =>
 gE t22_7 (
 gE t22_7 (
 gE t22_7 (
 gP t22_7 false (ixW (cnt 8 c0) t15_4) fun t27_8 =>
 gE t22_7 (
 gP t22_7 false (ldc c0 [] (((natOf t27_8) * 8) + 1)) fun t29_9 =>
 gE t22_7 (
 gP t22_7 false (prP (bnI .quo a0 (.int .i64 8))) fun t31_10 =>
 gP t22_7 false (prP (bnI .neq t29_9 t31_10)) fun t32_11 =>
 prP (pk t22_7 (.bool true) t32_11) fun t33_12 =>
 cndP t33_12 (
 K [(.int .i64 (-1))] []) (
 K [t15_4] []))))))))))
theorem spec_SlotOf.cl2 {w0 : World} {a0 : Value} {c0 c1 c2 c3 : List T} {K : J2} (h : spec_SlotOf.txt ⟨Try.prog, w0⟩ a0 c0 c1 c2 c3 K) : Eng.cl2 ⟨Try.prog, w0⟩ 91 spec_SlotOf.sg [a0] [c0, c1, c2, c3] K :=
  cl2_of_run (C := ⟨Try.prog, w0⟩) (f := 91) (fn := Try.f91) [] [] [] Try.func91 (by kernel_rfl) (by kernel_rfl) (by kernel_rfl) h
/-- spec.StaleWeaks -/
def spec_StaleWeaks.sg : Sg := ⟨[(1, [.t 8 0, .t 2 0, .t 1 0, .t 1 0])], [(0, [.t 1])], []⟩
def spec_StaleWeaks.txt (C : Ctx) (c0 c1 c2 c3 : List T) (K : J2) : Prop :=
 loopP (fun r3 x1 k2 =>
 prP (bnI .lss (nx x1 0) (iv (cnt 2 c1))) fun t10_5 =>
 cndP t10_5 (
 joinP (fun x7 k8 =>
 prP (bnI .add (nx x7 0) (.int .i64 1)) fun t12_19 =>
 r3 [t12_19] [(nxc k8 0)]) fun j9 =>
 ixW (cnt 2 c1) (nx x1 0) fun t16_10 =>
 ldc c1 [] ((natOf t16_10) * 2) fun t18_11 =>
 gE t18_11 (
 gE t18_11 (
 gE t18_11 (
 gE t18_11 (
 gP t18_11 true (ixW (cnt 2 c1) (nx x1 0)) fun t24_12 =>
 gE t18_11 (
 gP t18_11 true (ldc c1 [] (((natOf t24_12) * 2) + 1)) fun t26_13 =>
 gP t18_11 true ((fun K => cl2 C 91 spec_SlotOf.sg [t26_13] [c0, c1, c2, c3] fun v14 d15 => K (nx v14 0))) fun t27_16 =>
 gP t18_11 true (prP (bnI .lss t27_16 (.int .i64 0))) fun t28_17 =>
 prP (pk t18_11 t28_17 (.bool false)) fun t29_18 =>
 cndP t29_18 (
 apW [T.c (nx x1 0)] true (cnt 1 (nxc k2 0)) (cnt 1 [T.c (nx x1 0)]) 8 (
 j9 [(nx x1 0)] [((nxc k2 0) ++ [T.c (nx x1 0)])])) (
 j9 [(nx x1 0)] [(nxc k2 0)]))))))) (
 K [] [(nxc k2 0)])) [(.int .i64 0)] [[]]
theorem spec_StaleWeaks.cl2 {w0 : World} {c0 c1 c2 c3 : List T} {K : J2} (h : spec_StaleWeaks.txt ⟨Try.prog, w0⟩ c0 c1 c2 c3 K) : Eng.cl2 ⟨Try.prog, w0⟩ 22 spec_StaleWeaks.sg [] [c0, c1, c2, c3] K :=
  cl2_of_run (C := ⟨Try.prog, w0⟩) (f := 22) (fn := Try.f22) [(91, spec_SlotOf.sg)] [(5, [0, 1, 0, 7, 15, 31, 63, 127, 127, 383, 127, 1919, 3967, 8063, 16383, 32767, 65535])] [(233, ⟨[.p (.j 0) 0, .t (.j 1) 1, .v], [], [.bx [.t (.f 0) 8, .t (.f 1) 2, .t (.f 2) 1, .t (.f 3) 1], .ls]⟩), (58, ⟨[.p (.j 0) 0, .t (.j 1) 1, .v], [], [.bx [.t (.f 0) 8, .t (.f 1) 2, .t (.f 2) 1, .t (.f 3) 1], .ls]⟩)] Try.func22 (by kernel_rfl) (by kernel_rfl) (by kernel_rfl) h
/-- impl.SlotOf -/
def impl_SlotOf.sg : Sg := ⟨[(1, [.t 8 0, .t 2 0, .t 1 0, .t 1 0]), (0, [.v])], [(0, [.v])], []⟩
def impl_SlotOf.txt (C : Ctx) (a0 : Value) (c0 c1 c2 c3 : List T) (K : J2) : Prop :=
 prP (bnI .lss a0 (.int .i64 8)) fun t8_1 =>
 gE t8_1 (
 gE t8_1 (
 gE t8_1 (
 gP t8_1 false (prP (bnI .neq (iv (cnt 8 c0)) (.int .i64 8))) fun t13_2 =>
 prP (pk t8_1 (.bool true) t13_2) fun t14_3 =>
 cndP t14_3 (
 K [(.int .i64 (-1))] []) (
 prP (bnI .rem a0 (.int .i64 8)) fun t16_4 =>
 ixW (cnt 8 c0) t16_4 fun t20_5 =>
 ldg c0 [] ((natOf t20_5) * 8) [.c, .c, .c, .c, .c, .c, .l 1, .c] fun ts6 =>
 prP (un .not (tv (nxT ts6 0))) fun t24_7 =>
 gE t24_7 (
 gE t24_7 (
 gE t24_7 (
 gP t24_7 false (prP (bnI .quo a0 (.int .i64 8))) fun t29_8 =>
 gP t24_7 false (prP (bnI .neq (tv (nxT ts6 1)) t29_8)) fun t30_9 =>
 prP (pk t24_7 (.bool true) t30_9) fun t31_10 =>
 cndP t31_10 (
 K [(.int .i64 (-1))] []) (
 K [t16_4] []))))))))
theorem impl_SlotOf.cl2 {w0 : World} {a0 : Value} {c0 c1 c2 c3 : List T} {K : J2} (h : impl_SlotOf.txt ⟨Try.prog, w0⟩ a0 c0 c1 c2 c3 K) : Eng.cl2 ⟨Try.prog, w0⟩ 92 impl_SlotOf.sg [a0] [c0, c1, c2, c3] K :=
  cl2_of_run (C := ⟨Try.prog, w0⟩) (f := 92) (fn := Try.f92) [] [] [] Try.func92 (by kernel_rfl) (by kernel_rfl) (by kernel_rfl) h
/-- impl.StaleWeaks -/
def impl_StaleWeaks.sg : Sg := ⟨[(1, [.t 8 0, .t 2 0, .t 1 0, .t 1 0])], [(0, [.t 1])], []⟩
def impl_StaleWeaks.txt (C : Ctx) (c0 c1 c2 c3 : List T) (K : J2) : Prop :=
 loopP (fun r3 x1 k2 =>
 prP (bnI .lss (nx x1 1) (nx x1 0)) fun t10_19 =>
 cndP t10_19 (
 joinP (fun x21 k22 =>
 prP (bnI .add (nx x21 1) (.int .i64 1)) fun t27_31 =>
 r3 [(nx x21 0), t27_31] [(nxc k22 0)]) fun j23 =>
 ixW (cnt 2 c1) (nx x1 1) fun t12_24 =>
 ldg c1 [] ((natOf t12_24) * 2) [.c, .c] fun ts25 =>
 gE (tv (nxT ts25 0)) (
 gE (tv (nxT ts25 0)) (
 gE (tv (nxT ts25 0)) (
 gP (tv (nxT ts25 0)) true ((fun K => cl2 C 92 impl_SlotOf.sg [(tv (nxT ts25 1))] [c0, c1, c2, c3] fun v26 d27 => K (nx v26 0))) fun t20_28 =>
 gP (tv (nxT ts25 0)) true (prP (bnI .lss t20_28 (.int .i64 0))) fun t21_29 =>
 prP (pk (tv (nxT ts25 0)) t21_29 (.bool false)) fun t22_30 =>
 cndP t22_30 (
 apW [T.c (nx x1 1)] true (cnt 1 (nxc k2 0)) (cnt 1 [T.c (nx x1 1)]) 8 (
 j23 [(nx x1 0), (nx x1 1)] [((nxc k2 0) ++ [T.c (nx x1 1)])])) (
 j23 [(nx x1 0), (nx x1 1)] [(nxc k2 0)]))))) (
 K [] [(nxc k2 0)])) [(iv (cnt 2 c1)), (.int .i64 0)] [[]]
theorem impl_StaleWeaks.cl2 {w0 : World} {c0 c1 c2 c3 : List T} {K : J2} (h : impl_StaleWeaks.txt ⟨Try.prog, w0⟩ c0 c1 c2 c3 K) : Eng.cl2 ⟨Try.prog, w0⟩ 23 impl_StaleWeaks.sg [] [c0, c1, c2, c3] K :=
  cl2_of_run (C := ⟨Try.prog, w0⟩) (f := 23) (fn := Try.f23) [(92, impl_SlotOf.sg)] [] [(467, ⟨[.p (.j 0) 0, .t (.j 1) 1, .t (.f 1) 2, .v, .v], [], [.bx [.t (.f 0) 8, .t (.f 1) 2, .t (.f 2) 1, .t (.f 3) 1], .ls]⟩), (58, ⟨[.p (.j 0) 0, .t (.j 1) 1, .t (.f 1) 2, .v, .v], [], [.bx [.t (.f 0) 8, .t (.f 1) 2, .t (.f 2) 1, .t (.f 3) 1], .ls]⟩)] Try.func23 (by kernel_rfl) (by kernel_rfl) (by kernel_rfl) h
/-- laws.FnExactStaleWeaks -/
def laws_FnExactStaleWeaks.sg : Sg := ⟨[(1, [.t 8 0, .t 2 0, .t 1 0, .t 1 0])], [(0, [.v])], []⟩
def laws_FnExactStaleWeaks.txt (C : Ctx) (c0 c1 c2 c3 : List T) (K : J2) : Prop :=
 cl2 C 13 laws_szHeap.sg [(.int .i64 1048576)] [c0, c1, c2, c3] fun v1 d2 =>
 prP (bnI .lss (nx v1 0) (.int .i64 0)) fun t15_4 =>
 cndP t15_4 (
 K [(.bool true)] []) (
 cl2 C 15 laws_toHeap.sg [] [c0, c1, c2, c3] fun v5 d6 =>
 cl2 C 22 spec_StaleWeaks.sg [] [(nxc d6 0), (nxc d6 1), (nxc d6 2), (nxc d6 3)] fun v7 d8 =>
 cl2 C 15 laws_toHeap.sg [] [c0, c1, c2, c3] fun v9 d10 =>
 cl2 C 23 impl_StaleWeaks.sg [] [(nxc d10 0), (nxc d10 1), (nxc d10 2), (nxc d10 3)] fun v11 d12 =>
 cl2 C 17 laws_eqIntS.sg [] [(nxc d12 0), (nxc d8 0)] fun v13 d14 =>
 prP (un .not (nx v13 0)) fun t26_16 =>
 cndP t26_16 (
 K [(.bool false)] []) (
 cl2 C 15 laws_toHeap.sg [] [c0, c1, c2, c3] fun v17 d18 =>
 cl2 C 18 laws_eqHeap.sg [] [(nxc d10 0), (nxc d10 1), (nxc d10 2), (nxc d10 3), (nxc d18 0), (nxc d18 1), (nxc d18 2), (nxc d18 3)] fun v19 d20 =>
 prP (un .not (nx v19 0)) fun t31_22 =>
 cndP t31_22 (
 K [(.bool false)] []) (
 cl2 C 19 laws_markHeap.sg [(.int .i64 1)] [(nxc d10 0), (nxc d10 1), (nxc d10 2), (nxc d10 3)] fun v23 d24 =>
 prP (bnI .lss (nx v23 0) (.int .i64 0)) fun t36_25 =>
 gE t36_25 (
 gE t36_25 (
 gP t36_25 false ((fun K => cl2 C 17 laws_eqIntS.sg [] [(nxc d12 0), (nxc d8 0)] fun v26 d27 => K (nx v26 0))) fun t40_28 =>
 gP t36_25 false (prP (un .not t40_28)) fun t41_29 =>
 prP (pk t36_25 (.bool true) t41_29) fun t42_30 =>
 cndP t42_30 (
 K [(.bool false)] []) (
 cl2 C 20 laws_markIntS.sg [(.int .i64 1)] [(nxc d12 0)] fun v31 d32 =>
 cl2 C 21 laws_heldIntS.sg [(.int .i64 1)] [(nxc d32 0)] fun v33 d34 =>
 prP (bnI .lss (nx v33 0) (.int .i64 0)) fun t50_36 =>
 cndP t50_36 (
 K [(.bool false)] []) (
 prP (bnI .neq (nx v33 0) (nx v31 0)) fun t53_37 =>
 cndP t53_37 (
 K [(.bool false)] []) (
 cl2 C 15 laws_toHeap.sg [] [c0, c1, c2, c3] fun v38 d39 =>
 cl2 C 23 impl_StaleWeaks.sg [] [(nxc d39 0), (nxc d39 1), (nxc d39 2), (nxc d39 3)] fun v40 d41 =>
 cl2 C 17 laws_eqIntS.sg [] [(nxc d41 0), (nxc d8 0)] fun v42 d43 =>
 prP (un .not (nx v42 0)) fun t60_45 =>
 cndP t60_45 (
 K [(.bool false)] []) (
 cl2 C 21 laws_heldIntS.sg [(.int .i64 1)] [(nxc d32 0)] fun v46 d47 =>
 prP (bnI .lss (nx v46 0) (.int .i64 0)) fun t65_49 =>
 cndP t65_49 (
 K [(.bool false)] []) (
 prP (bnI .neq (nx v46 0) (nx v31 0)) fun t68_50 =>
 cndP t68_50 (
 K [(.bool false)] []) (
 K [(.bool true)] [])))))))))))
theorem laws_FnExactStaleWeaks.cl2 {w0 : World} {c0 c1 c2 c3 : List T} {K : J2} (h : laws_FnExactStaleWeaks.txt ⟨Try.prog, w0⟩ c0 c1 c2 c3 K) : Eng.cl2 ⟨Try.prog, w0⟩ 4 laws_FnExactStaleWeaks.sg [] [c0, c1, c2, c3] K :=
  cl2_of_run (C := ⟨Try.prog, w0⟩) (f := 4) (fn := Try.f4) [(13, laws_szHeap.sg), (15, laws_toHeap.sg), (22, spec_StaleWeaks.sg), (23, impl_StaleWeaks.sg), (17, laws_eqIntS.sg), (18, laws_eqHeap.sg), (19, laws_markHeap.sg), (20, laws_markIntS.sg), (21, laws_heldIntS.sg)] [(10, [0, 0, 2, 7, 15])] [] Try.func4 (by kernel_rfl) (by kernel_rfl) (by kernel_rfl) h
end Go.Proofs.Ytnhicpkhkaihoaa.P
