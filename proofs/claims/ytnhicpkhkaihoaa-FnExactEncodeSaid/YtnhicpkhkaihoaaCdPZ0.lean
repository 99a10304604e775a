/- The functions of the code as the pure engine's texts, printed by my program gen2.py: each with its call. -/
import Derived.Test.YtnhicpkhkaihoaaChecked
import Derived.Test.YtnhicpkhkaihoaaCdEngM5
import Derived.KernelRfl
namespace Go.Proofs.Ytnhicpkhkaihoaa.P
open Go Go.Proofs.Ytnhicpkhkaihoaa Go.Proofs.Ytnhicpkhkaihoaa.Eng
set_option linter.unusedVariables false
set_option maxRecDepth 100000
/-- laws.szIntS -/
def laws_szIntS.sg : Sg := ⟨[(0, [.t 1 0]), (0, [.v])], [(0, [.v])], []⟩
def laws_szIntS.txt (C : Ctx) (a0 : Value) (c0 : List T) (K : J2) : Prop :=
 prP (bnI .sub a0 (iv (cnt 1 c0))) fun t8_1 =>
 prP (bnI .lss t8_1 (.int .i64 0)) fun t10_2 =>
 cndP t10_2 (
 K [(.int .i64 (-1))] []) (
 K [t8_1] [])
theorem laws_szIntS.cl2 {w0 : World} {a0 : Value} {c0 : List T} {K : J2} (h : laws_szIntS.txt ⟨Try.prog, w0⟩ a0 c0 K) : Eng.cl2 ⟨Try.prog, w0⟩ 77 laws_szIntS.sg [a0] [c0] K :=
  cl2_of_run (C := ⟨Try.prog, w0⟩) (f := 77) (fn := Try.f77) [] [] [] Try.func77 (by kernel_rfl) (by kernel_rfl) (by kernel_rfl) h
/-- laws.toIntS -/
def laws_toIntS.sg : Sg := ⟨[(0, [.t 1 0])], [(0, [.t 1])], []⟩
def laws_toIntS.txt (C : Ctx) (c0 : List T) (K : J2) : Prop :=
 mkW 8 (iv (cnt 1 c0)) (iv (cnt 1 c0)) fun n1 =>
 loopP (fun r4 x2 k3 =>
 prP (bnI .lss (nx x2 0) (iv (cnt 1 c0))) fun t11_6 =>
 cndP t11_6 (
 ixW (cnt 1 c0) (nx x2 0) fun t18_7 =>
 ldc c0 [] ((natOf t18_7) * 1) fun t19_8 =>
 ixW (cnt 1 (nxc k3 0)) (nx x2 0) fun t20_9 =>
 stc (nxc k3 0) [] ((natOf t20_9) * 1) t19_8 fun k10 =>
 prP (bnI .add (nx x2 0) (.int .i64 1)) fun t13_11 =>
 r4 [t13_11] [k10]) (
 K [] [(nxc k3 0)])) [(.int .i64 0)] [(repT (natOf n1) [T.c (.int .i64 0)])]
theorem laws_toIntS.cl2 {w0 : World} {c0 : List T} {K : J2} (h : laws_toIntS.txt ⟨Try.prog, w0⟩ c0 K) : Eng.cl2 ⟨Try.prog, w0⟩ 82 laws_toIntS.sg [] [c0] K :=
  cl2_of_run (C := ⟨Try.prog, w0⟩) (f := 82) (fn := Try.f82) [] [] [(58, ⟨[.t (.f 0) 1, .t (.j 0) 1, .v], [], [.ls]⟩)] Try.func82 (by kernel_rfl) (by kernel_rfl) (by kernel_rfl) h
/-- spec.l1In -/
def spec_l1In.sg : Sg := ⟨[(0, [.v]), (0, [.v]), (0, [.v])], [(0, [.v])], []⟩
def spec_l1In.txt (C : Ctx) (a0 a1 a2 : Value) (K : J2) : Prop :=
 prP (bnI .geq a0 a1) fun t9_1 =>
 gE t9_1 (
 gE t9_1 (
 gP t9_1 true (prP (bnI .leq a0 a2)) fun t13_2 =>
 prP (pk t9_1 t13_2 (.bool false)) fun t14_3 =>
 K [t14_3] []))
theorem spec_l1In.cl2 {w0 : World} {a0 a1 a2 : Value} {K : J2} (h : spec_l1In.txt ⟨Try.prog, w0⟩ a0 a1 a2 K) : Eng.cl2 ⟨Try.prog, w0⟩ 154 spec_l1In.sg [a0, a1, a2] [] K :=
  cl2_of_run (C := ⟨Try.prog, w0⟩) (f := 154) (fn := Try.f154) [] [] [] Try.func154 (by kernel_rfl) (by kernel_rfl) (by kernel_rfl) h
/-- impl.in -/
def impl_in.sg : Sg := ⟨[(0, [.v]), (0, [.v]), (0, [.v])], [(0, [.v])], []⟩
def impl_in.txt (C : Ctx) (a0 a1 a2 : Value) (K : J2) : Prop :=
 prP (bnI .geq a0 a1) fun t9_1 =>
 gE t9_1 (
 gE t9_1 (
 gP t9_1 true (prP (bnI .leq a0 a2)) fun t13_2 =>
 prP (pk t9_1 t13_2 (.bool false)) fun t14_3 =>
 K [t14_3] []))
theorem impl_in.cl2 {w0 : World} {a0 a1 a2 : Value} {K : J2} (h : impl_in.txt ⟨Try.prog, w0⟩ a0 a1 a2 K) : Eng.cl2 ⟨Try.prog, w0⟩ 157 impl_in.sg [a0, a1, a2] [] K :=
  cl2_of_run (C := ⟨Try.prog, w0⟩) (f := 157) (fn := Try.f157) [] [] [] Try.func157 (by kernel_rfl) (by kernel_rfl) (by kernel_rfl) h
/-- laws.eqIntS -/
def laws_eqIntS.sg : Sg := ⟨[(0, [.t 1 0]), (0, [.t 1 0])], [(0, [.v])], []⟩
def laws_eqIntS.txt (C : Ctx) (c0 c1 : List T) (K : J2) : Prop :=
 prP (bnI .neq (iv (cnt 1 c0)) (iv (cnt 1 c1))) fun t10_1 =>
 cndP t10_1 (
 K [(.bool false)] []) (
 loopP (fun r4 x2 k3 =>
 prP (bnI .lss (nx x2 0) (iv (cnt 1 c0))) fun t14_6 =>
 cndP t14_6 (
 ixW (cnt 1 c0) (nx x2 0) fun t19_7 =>
 ldc c0 [] ((natOf t19_7) * 1) fun t20_8 =>
 ixW (cnt 1 c1) (nx x2 0) fun t23_9 =>
 ldc c1 [] ((natOf t23_9) * 1) fun t24_10 =>
 prP (bnI .neq t20_8 t24_10) fun t25_11 =>
 cndP t25_11 (
 K [(.bool false)] []) (
 prP (bnI .add (nx x2 0) (.int .i64 1)) fun t16_12 =>
 r4 [t16_12] [])) (
 K [(.bool true)] [])) [(.int .i64 0)] [])
theorem laws_eqIntS.cl2 {w0 : World} {c0 c1 : List T} {K : J2} (h : laws_eqIntS.txt ⟨Try.prog, w0⟩ c0 c1 K) : Eng.cl2 ⟨Try.prog, w0⟩ 17 laws_eqIntS.sg [] [c0, c1] K :=
  cl2_of_run (C := ⟨Try.prog, w0⟩) (f := 17) (fn := Try.f17) [] [(6, [0, 0, 3, 7, 0, 0, 48, 112, 255])] [(58, ⟨[.t (.f 0) 1, .t (.f 1) 1, .v], [], []⟩)] Try.func17 (by kernel_rfl) (by kernel_rfl) (by kernel_rfl) h
/-- laws.szOp -/
def laws_szOp.sg : Sg := ⟨[(1, [.v, .v, .v, .v, .v]), (0, [.v])], [(0, [.v])], []⟩
def laws_szOp.txt (C : Ctx) (a0 a1 a2 a3 a4 a5 : Value) (K : J2) : Prop :=
 prP (lnS a4) fun t8_1 =>
 prP (bnI .sub a5 t8_1) fun t9_2 =>
 prP (bnI .lss t9_2 (.int .i64 0)) fun t11_3 =>
 cndP t11_3 (
 K [(.int .i64 (-1))] []) (
 K [t9_2] [])
theorem laws_szOp.cl2 {w0 : World} {a0 a1 a2 a3 a4 a5 : Value} {K : J2} (h : laws_szOp.txt ⟨Try.prog, w0⟩ a0 a1 a2 a3 a4 a5 K) : Eng.cl2 ⟨Try.prog, w0⟩ 61 laws_szOp.sg [a0, a1, a2, a3, a4, a5] [] K :=
  cl2_of_run (C := ⟨Try.prog, w0⟩) (f := 61) (fn := Try.f61) [] [] [] Try.func61 (by kernel_rfl) (by kernel_rfl) (by kernel_rfl) h
/-- laws.szOpS -/
def laws_szOpS.sg : Sg := ⟨[(0, [.t 5 0]), (0, [.v])], [(0, [.v])], []⟩
def laws_szOpS.txt (C : Ctx) (a0 : Value) (c0 : List T) (K : J2) : Prop :=
 prP (bnI .sub a0 (iv (cnt 5 c0))) fun t9_1 =>
 prP (bnI .lss t9_1 (.int .i64 0)) fun t11_2 =>
 cndP t11_2 (
 K [(.int .i64 (-1))] []) (
 loopP (fun r5 x3 k4 =>
 prP (bnI .lss (nx x3 1) (iv (cnt 5 c0))) fun t15_7 =>
 cndP t15_7 (
 ixW (cnt 5 c0) (nx x3 1) fun t20_8 =>
 ldg c0 [] ((natOf t20_8) * 5) [.c, .c, .c, .c, .c] fun ts9 =>
 cl2 C 61 laws_szOp.sg [(tv (nxT ts9 0)), (tv (nxT ts9 1)), (tv (nxT ts9 2)), (tv (nxT ts9 3)), (tv (nxT ts9 4)), (nx x3 0)] [] fun v10 d11 =>
 prP (bnI .lss (nx v10 0) (.int .i64 0)) fun t25_13 =>
 cndP t25_13 (
 K [(.int .i64 (-1))] []) (
 prP (bnI .add (nx x3 1) (.int .i64 1)) fun t17_14 =>
 r5 [(nx v10 0), t17_14] [])) (
 K [(nx x3 0)] [])) [t9_1, (.int .i64 0)] [])
theorem laws_szOpS.cl2 {w0 : World} {a0 : Value} {c0 : List T} {K : J2} (h : laws_szOpS.txt ⟨Try.prog, w0⟩ a0 c0 K) : Eng.cl2 ⟨Try.prog, w0⟩ 24 laws_szOpS.sg [a0] [c0] K :=
  cl2_of_run (C := ⟨Try.prog, w0⟩) (f := 24) (fn := Try.f24) [(61, laws_szOp.sg)] [] [(122, ⟨[.t (.f 0) 5, .v, .v], [], []⟩)] Try.func24 (by kernel_rfl) (by kernel_rfl) (by kernel_rfl) h
/-- laws.szAnswer -/
def laws_szAnswer.sg : Sg := ⟨[(1, [.v, .v, .t 1 0]), (0, [.v])], [(0, [.v])], []⟩
def laws_szAnswer.txt (C : Ctx) (a0 a1 a2 : Value) (c0 : List T) (K : J2) : Prop :=
 cl2 C 77 laws_szIntS.sg [a2] [c0] fun v1 d2 =>
 prP (bnI .lss (nx v1 0) (.int .i64 0)) fun t10_4 =>
 cndP t10_4 (
 K [(.int .i64 (-1))] []) (
 K [(nx v1 0)] [])
theorem laws_szAnswer.cl2 {w0 : World} {a0 a1 a2 : Value} {c0 : List T} {K : J2} (h : laws_szAnswer.txt ⟨Try.prog, w0⟩ a0 a1 a2 c0 K) : Eng.cl2 ⟨Try.prog, w0⟩ 93 laws_szAnswer.sg [a0, a1, a2] [c0] K :=
  cl2_of_run (C := ⟨Try.prog, w0⟩) (f := 93) (fn := Try.f93) [(77, laws_szIntS.sg)] [] [] Try.func93 (by kernel_rfl) (by kernel_rfl) (by kernel_rfl) h
/-- laws.szAnswerS -/
def laws_szAnswerS.sg : Sg := ⟨[(0, [.t 3 0]), (0, [.v])], [(0, [.v])], []⟩
def laws_szAnswerS.txt (C : Ctx) (a0 : Value) (c0 : List T) (K : J2) : Prop :=
 prP (bnI .sub a0 (iv (cnt 3 c0))) fun t9_1 =>
 prP (bnI .lss t9_1 (.int .i64 0)) fun t11_2 =>
 cndP t11_2 (
 K [(.int .i64 (-1))] []) (
 loopP (fun r5 x3 k4 =>
 prP (bnI .lss (nx x3 1) (iv (cnt 3 c0))) fun t15_7 =>
 cndP t15_7 (
 ixW (cnt 3 c0) (nx x3 1) fun t20_8 =>
 ldg c0 [] ((natOf t20_8) * 3) [.c, .c, .l 1] fun ts9 =>
 cl2 C 93 laws_szAnswer.sg [(tv (nxT ts9 0)), (tv (nxT ts9 1)), (nx x3 0)] [(subN c0 [(((natOf t20_8) * 3) + 2)])] fun v10 d11 =>
 prP (bnI .lss (nx v10 0) (.int .i64 0)) fun t25_13 =>
 cndP t25_13 (
 K [(.int .i64 (-1))] []) (
 prP (bnI .add (nx x3 1) (.int .i64 1)) fun t17_14 =>
 r5 [(nx v10 0), t17_14] [])) (
 K [(nx x3 0)] [])) [t9_1, (.int .i64 0)] [])
theorem laws_szAnswerS.cl2 {w0 : World} {a0 : Value} {c0 : List T} {K : J2} (h : laws_szAnswerS.txt ⟨Try.prog, w0⟩ a0 c0 K) : Eng.cl2 ⟨Try.prog, w0⟩ 25 laws_szAnswerS.sg [a0] [c0] K :=
  cl2_of_run (C := ⟨Try.prog, w0⟩) (f := 25) (fn := Try.f25) [(93, laws_szAnswer.sg)] [] [(122, ⟨[.t (.f 0) 3, .v, .v], [], []⟩)] Try.func25 (by kernel_rfl) (by kernel_rfl) (by kernel_rfl) h
/-- laws.toOp -/
def laws_toOp.sg : Sg := ⟨[(1, [.v, .v, .v, .v, .v])], [(1, [.v, .v, .v, .v, .v])], []⟩
def laws_toOp.txt (C : Ctx) (a0 a1 a2 a3 a4 : Value) (K : J2) : Prop :=
 K [a0, a1, a2, a3, a4] []
theorem laws_toOp.cl2 {w0 : World} {a0 a1 a2 a3 a4 : Value} {K : J2} (h : laws_toOp.txt ⟨Try.prog, w0⟩ a0 a1 a2 a3 a4 K) : Eng.cl2 ⟨Try.prog, w0⟩ 63 laws_toOp.sg [a0, a1, a2, a3, a4] [] K :=
  cl2_of_run (C := ⟨Try.prog, w0⟩) (f := 63) (fn := Try.f63) [] [] [] Try.func63 (by kernel_rfl) (by kernel_rfl) (by kernel_rfl) h
/-- laws.toOpS -/
def laws_toOpS.sg : Sg := ⟨[(0, [.t 5 0])], [(0, [.t 5])], []⟩
def laws_toOpS.txt (C : Ctx) (c0 : List T) (K : J2) : Prop :=
 mkW 48 (iv (cnt 5 c0)) (iv (cnt 5 c0)) fun n1 =>
 loopP (fun r4 x2 k3 =>
 prP (bnI .lss (nx x2 0) (iv (cnt 5 c0))) fun t11_6 =>
 cndP t11_6 (
 ixW (cnt 5 c0) (nx x2 0) fun t18_7 =>
 ldg c0 [] ((natOf t18_7) * 5) [.c, .c, .c, .c, .c] fun ts8 =>
 cl2 C 63 laws_toOp.sg [(tv (nxT ts8 0)), (tv (nxT ts8 1)), (tv (nxT ts8 2)), (tv (nxT ts8 3)), (tv (nxT ts8 4))] [] fun v9 d10 =>
 ixW (cnt 5 (nxc k3 0)) (nx x2 0) fun t21_11 =>
 stg (nxc k3 0) [] ((natOf t21_11) * 5) [T.c (nx v9 0), T.c (nx v9 1), T.c (nx v9 2), T.c (nx v9 3), T.c (nx v9 4)] fun k12 =>
 prP (bnI .add (nx x2 0) (.int .i64 1)) fun t13_13 =>
 r4 [t13_13] [k12]) (
 K [] [(nxc k3 0)])) [(.int .i64 0)] [(repT (natOf n1) [T.c (.int .i64 0), T.c (.int .i64 0), T.c (.int .i64 0), T.c (.int .i64 0), T.c (.string { data := #[] })])]
theorem laws_toOpS.cl2 {w0 : World} {c0 : List T} {K : J2} (h : laws_toOpS.txt ⟨Try.prog, w0⟩ c0 K) : Eng.cl2 ⟨Try.prog, w0⟩ 27 laws_toOpS.sg [] [c0] K :=
  cl2_of_run (C := ⟨Try.prog, w0⟩) (f := 27) (fn := Try.f27) [(63, laws_toOp.sg)] [] [(58, ⟨[.t (.f 0) 5, .t (.j 0) 5, .v], [], [.ls]⟩)] Try.func27 (by kernel_rfl) (by kernel_rfl) (by kernel_rfl) h
/-- laws.toAnswer -/
def laws_toAnswer.sg : Sg := ⟨[(1, [.v, .v, .t 1 0])], [(1, [.v, .v, .t 1])], []⟩
def laws_toAnswer.txt (C : Ctx) (a0 a1 : Value) (c0 : List T) (K : J2) : Prop :=
 cl2 C 82 laws_toIntS.sg [] [c0] fun v1 d2 =>
 K [a0, a1] [(nxc d2 0)]
theorem laws_toAnswer.cl2 {w0 : World} {a0 a1 : Value} {c0 : List T} {K : J2} (h : laws_toAnswer.txt ⟨Try.prog, w0⟩ a0 a1 c0 K) : Eng.cl2 ⟨Try.prog, w0⟩ 95 laws_toAnswer.sg [a0, a1] [c0] K :=
  cl2_of_run (C := ⟨Try.prog, w0⟩) (f := 95) (fn := Try.f95) [(82, laws_toIntS.sg)] [] [] Try.func95 (by kernel_rfl) (by kernel_rfl) (by kernel_rfl) h
/-- laws.toAnswerS -/
def laws_toAnswerS.sg : Sg := ⟨[(0, [.t 3 0])], [(0, [.t 3])], []⟩
def laws_toAnswerS.txt (C : Ctx) (c0 : List T) (K : J2) : Prop :=
 mkW 40 (iv (cnt 3 c0)) (iv (cnt 3 c0)) fun n1 =>
 loopP (fun r4 x2 k3 =>
 prP (bnI .lss (nx x2 0) (iv (cnt 3 c0))) fun t11_6 =>
 cndP t11_6 (
 ixW (cnt 3 c0) (nx x2 0) fun t18_7 =>
 ldg c0 [] ((natOf t18_7) * 3) [.c, .c, .l 1] fun ts8 =>
 cl2 C 95 laws_toAnswer.sg [(tv (nxT ts8 0)), (tv (nxT ts8 1))] [(subN c0 [(((natOf t18_7) * 3) + 2)])] fun v9 d10 =>
 ixW (cnt 3 (nxc k3 0)) (nx x2 0) fun t21_11 =>
 stg (nxc k3 0) [] ((natOf t21_11) * 3) [T.c (nx v9 0), T.c (nx v9 1), T.l 1 (nxc d10 0)] fun k12 =>
 prP (bnI .add (nx x2 0) (.int .i64 1)) fun t13_13 =>
 r4 [t13_13] [k12]) (
 K [] [(nxc k3 0)])) [(.int .i64 0)] [(repT (natOf n1) [T.c (.int .i64 0), T.c (.int .i64 0), T.l 1 []])]
theorem laws_toAnswerS.cl2 {w0 : World} {c0 : List T} {K : J2} (h : laws_toAnswerS.txt ⟨Try.prog, w0⟩ c0 K) : Eng.cl2 ⟨Try.prog, w0⟩ 28 laws_toAnswerS.sg [] [c0] K :=
  cl2_of_run (C := ⟨Try.prog, w0⟩) (f := 28) (fn := Try.f28) [(95, laws_toAnswer.sg)] [] [(58, ⟨[.t (.f 0) 3, .t (.j 0) 3, .v], [], [.ls]⟩)] Try.func28 (by kernel_rfl) (by kernel_rfl) (by kernel_rfl) h
/-- spec.Speakable -/
def spec_Speakable.sg : Sg := ⟨[(1, [.v, .v, .v, .v, .v])], [(0, [.v])], []⟩
def spec_Speakable.txt (C : Ctx) (a0 a1 a2 a3 a4 : Value) (K : J2) : Prop :=
 cl2 C 154 spec_l1In.sg [a0, (.int .i64 (-1000000000)), (.int .i64 1000000000)] [] fun v1 d2 =>
 gE (nx v1 0) (
 gE (nx v1 0) (
 gP (nx v1 0) true ((fun K => cl2 C 154 spec_l1In.sg [a1, (.int .i64 (-1000000000)), (.int .i64 1000000000)] [] fun v4 d5 => K (nx v4 0))) fun t9_6 =>
 prP (pk (nx v1 0) t9_6 (.bool false)) fun t10_7 =>
 gE t10_7 (
 gE t10_7 (
 gP t10_7 true ((fun K => cl2 C 154 spec_l1In.sg [a2, (.int .i64 (-1000000000)), (.int .i64 1000000000)] [] fun v8 d9 => K (nx v8 0))) fun t14_10 =>
 prP (pk t10_7 t14_10 (.bool false)) fun t15_11 =>
 gE t15_11 (
 gE t15_11 (
 gP t15_11 true ((fun K => cl2 C 154 spec_l1In.sg [a3, (.int .i64 (-1000000000)), (.int .i64 1000000000)] [] fun v12 d13 => K (nx v12 0))) fun t19_14 =>
 prP (pk t15_11 t19_14 (.bool false)) fun t20_15 =>
 gE t20_15 (
 gE t20_15 (
 gP t20_15 true (prP (lnS a4)) fun t24_16 =>
 gP t20_15 true (prP (bnI .leq t24_16 (.int .i64 8))) fun t25_17 =>
 prP (pk t20_15 t25_17 (.bool false)) fun t26_18 =>
 K [t26_18] []))))))))
theorem spec_Speakable.cl2 {w0 : World} {a0 a1 a2 a3 a4 : Value} {K : J2} (h : spec_Speakable.txt ⟨Try.prog, w0⟩ a0 a1 a2 a3 a4 K) : Eng.cl2 ⟨Try.prog, w0⟩ 118 spec_Speakable.sg [a0, a1, a2, a3, a4] [] K :=
  cl2_of_run (C := ⟨Try.prog, w0⟩) (f := 118) (fn := Try.f118) [(154, spec_l1In.sg)] [] [] Try.func118 (by kernel_rfl) (by kernel_rfl) (by kernel_rfl) h
/-- spec.l10AnswerOk -/
def spec_l10AnswerOk.sg : Sg := ⟨[(1, [.v, .v, .t 1 0])], [(0, [.v])], []⟩
def spec_l10AnswerOk.txt (C : Ctx) (a0 a1 : Value) (c0 : List T) (K : J2) : Prop :=
 cl2 C 154 spec_l1In.sg [a0, (.int .i64 0), (.int .i64 6)] [] fun v1 d2 =>
 prP (un .not (nx v1 0)) fun t7_4 =>
 gE t7_4 (
 gE t7_4 (
 gP t7_4 false ((fun K => cl2 C 154 spec_l1In.sg [a1, (.int .i64 (-1000000000)), (.int .i64 1000000000)] [] fun v5 d6 => K (nx v5 0))) fun t11_7 =>
 gP t7_4 false (prP (un .not t11_7)) fun t12_8 =>
 prP (pk t7_4 (.bool true) t12_8) fun t13_9 =>
 gE t13_9 (
 gE t13_9 (
 gE t13_9 (
 gP t13_9 false (prP (bnI .gtr (iv (cnt 1 c0)) (.int .i64 8))) fun t18_10 =>
 prP (pk t13_9 (.bool true) t18_10) fun t19_11 =>
 cndP t19_11 (
 K [(.bool false)] []) (
 loopP (fun r14 x12 k13 =>
 prP (bnI .lss (nx x12 0) (iv (cnt 1 c0))) fun t24_16 =>
 cndP t24_16 (
 ixW (cnt 1 c0) (nx x12 0) fun t30_17 =>
 ldc c0 [] ((natOf t30_17) * 1) fun t31_18 =>
 cl2 C 154 spec_l1In.sg [t31_18, (.int .i64 (-1000000000)), (.int .i64 1000000000)] [] fun v19 d20 =>
 prP (un .not (nx v19 0)) fun t33_22 =>
 cndP t33_22 (
 K [(.bool false)] []) (
 prP (bnI .add (nx x12 0) (.int .i64 1)) fun t26_23 =>
 r14 [t26_23, (nx x12 1), (nx x12 2)] [])) (
 K [(.bool true)] [])) [(.int .i64 0), a0, a1] []))))))
theorem spec_l10AnswerOk.cl2 {w0 : World} {a0 a1 : Value} {c0 : List T} {K : J2} (h : spec_l10AnswerOk.txt ⟨Try.prog, w0⟩ a0 a1 c0 K) : Eng.cl2 ⟨Try.prog, w0⟩ 119 spec_l10AnswerOk.sg [a0, a1] [c0] K :=
  cl2_of_run (C := ⟨Try.prog, w0⟩) (f := 119) (fn := Try.f119) [(154, spec_l1In.sg)] [] [(58, ⟨[.p (.j 0) 0, .v], [], [.bx [.v, .v, .t (.f 0) 1]]⟩)] Try.func119 (by kernel_rfl) (by kernel_rfl) (by kernel_rfl) h
end Go.Proofs.Ytnhicpkhkaihoaa.P
