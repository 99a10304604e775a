/- The functions of the code as the pure engine's texts, printed by my program gen2.py: each with its call. -/
import Derived.Test.YtmikdglafmfnfaaChecked
import Derived.Test.YtmikdglafmfnfaaEngPv
import Derived.KernelRfl
namespace Go.Proofs.Ytmikdglafmfnfaa.P
open Go Go.Proofs.Ytmikdglafmfnfaa Go.Proofs.Ytmikdglafmfnfaa.Eng
set_option linter.unusedVariables false
set_option maxRecDepth 100000
/-- laws.szStringS -/
def laws_szStringS.sg : Sg := ⟨[(0, [.t 1 0]), (0, [.v])], [(0, [.v])], []⟩
def laws_szStringS.txt (C : Ctx) (a0 : Value) (c0 : List T) (K : J2) : Prop :=
 prP (bnI .sub a0 (iv (cnt 1 c0))) fun t9_1 =>
 prP (bnI .lss t9_1 (.int .i64 0)) fun t11_2 =>
 cndP t11_2 (
 K [(.int .i64 (-1))] []) (
 loopP (fun r5 x3 k4 =>
 prP (bnI .lss (nx x3 1) (iv (cnt 1 c0))) fun t15_7 =>
 cndP t15_7 (
 ixW (cnt 1 c0) (nx x3 1) fun t21_8 =>
 ldc c0 [] ((natOf t21_8) * 1) fun t22_9 =>
 prP (lnS t22_9) fun t23_10 =>
 prP (bnI .sub (nx x3 0) t23_10) fun t24_11 =>
 prP (bnI .lss t24_11 (.int .i64 0)) fun t26_12 =>
 cndP t26_12 (
 K [(.int .i64 (-1))] []) (
 prP (bnI .add (nx x3 1) (.int .i64 1)) fun t17_13 =>
 r5 [t24_11, t17_13] [])) (
 K [(nx x3 0)] [])) [t9_1, (.int .i64 0)] [])
theorem laws_szStringS.cl2 {w0 : World} {a0 : Value} {c0 : List T} {K : J2} (h : laws_szStringS.txt ⟨Try.prog, w0⟩ a0 c0 K) : Eng.cl2 ⟨Try.prog, w0⟩ 69 laws_szStringS.sg [a0] [c0] K :=
  cl2_of_run (C := ⟨Try.prog, w0⟩) (f := 69) (fn := Try.f69) [] [] [(122, ⟨[.t (.f 0) 1, .v, .v], [], []⟩)] Try.func69 (by kernel_rfl) (by kernel_rfl) (by kernel_rfl) h
/-- laws.szPen -/
def laws_szPen.sg : Sg := ⟨[(1, [.v, .t 1 0]), (0, [.v])], [(0, [.v])], []⟩
def laws_szPen.txt (C : Ctx) (a0 a1 : Value) (c0 : List T) (K : J2) : Prop :=
 cl2 C 69 laws_szStringS.sg [a1] [c0] fun v1 d2 =>
 prP (bnI .lss (nx v1 0) (.int .i64 0)) fun t10_4 =>
 cndP t10_4 (
 K [(.int .i64 (-1))] []) (
 K [(nx v1 0)] [])
theorem laws_szPen.cl2 {w0 : World} {a0 a1 : Value} {c0 : List T} {K : J2} (h : laws_szPen.txt ⟨Try.prog, w0⟩ a0 a1 c0 K) : Eng.cl2 ⟨Try.prog, w0⟩ 12 laws_szPen.sg [a0, a1] [c0] K :=
  cl2_of_run (C := ⟨Try.prog, w0⟩) (f := 12) (fn := Try.f12) [(69, laws_szStringS.sg)] [] [] Try.func12 (by kernel_rfl) (by kernel_rfl) (by kernel_rfl) h
/-- laws.szOp -/
def laws_szOp.sg : Sg := ⟨[(1, [.v, .v, .v, .v, .v]), (0, [.v])], [(0, [.v])], []⟩
def laws_szOp.txt (C : Ctx) (a0 a1 a2 a3 a4 a5 : Value) (K : J2) : Prop :=
 prP (lnS a4) fun t8_1 =>
 prP (bnI .sub a5 t8_1) fun t9_2 =>
 prP (bnI .lss t9_2 (.int .i64 0)) fun t11_3 =>
 cndP t11_3 (
 K [(.int .i64 (-1))] []) (
 K [t9_2] [])
theorem laws_szOp.cl2 {w0 : World} {a0 a1 a2 a3 a4 a5 : Value} {K : J2} (h : laws_szOp.txt ⟨Try.prog, w0⟩ a0 a1 a2 a3 a4 a5 K) : Eng.cl2 ⟨Try.prog, w0⟩ 13 laws_szOp.sg [a0, a1, a2, a3, a4, a5] [] K :=
  cl2_of_run (C := ⟨Try.prog, w0⟩) (f := 13) (fn := Try.f13) [] [] [] Try.func13 (by kernel_rfl) (by kernel_rfl) (by kernel_rfl) h
/-- laws.szIntS -/
def laws_szIntS.sg : Sg := ⟨[(0, [.t 1 0]), (0, [.v])], [(0, [.v])], []⟩
def laws_szIntS.txt (C : Ctx) (a0 : Value) (c0 : List T) (K : J2) : Prop :=
 prP (bnI .sub a0 (iv (cnt 1 c0))) fun t8_1 =>
 prP (bnI .lss t8_1 (.int .i64 0)) fun t10_2 =>
 cndP t10_2 (
 K [(.int .i64 (-1))] []) (
 K [t8_1] [])
theorem laws_szIntS.cl2 {w0 : World} {a0 : Value} {c0 : List T} {K : J2} (h : laws_szIntS.txt ⟨Try.prog, w0⟩ a0 c0 K) : Eng.cl2 ⟨Try.prog, w0⟩ 70 laws_szIntS.sg [a0] [c0] K :=
  cl2_of_run (C := ⟨Try.prog, w0⟩) (f := 70) (fn := Try.f70) [] [] [] Try.func70 (by kernel_rfl) (by kernel_rfl) (by kernel_rfl) h
/-- laws.szAnswer -/
def laws_szAnswer.sg : Sg := ⟨[(1, [.v, .v, .t 1 0]), (0, [.v])], [(0, [.v])], []⟩
def laws_szAnswer.txt (C : Ctx) (a0 a1 a2 : Value) (c0 : List T) (K : J2) : Prop :=
 cl2 C 70 laws_szIntS.sg [a2] [c0] fun v1 d2 =>
 prP (bnI .lss (nx v1 0) (.int .i64 0)) fun t10_4 =>
 cndP t10_4 (
 K [(.int .i64 (-1))] []) (
 K [(nx v1 0)] [])
theorem laws_szAnswer.cl2 {w0 : World} {a0 a1 a2 : Value} {c0 : List T} {K : J2} (h : laws_szAnswer.txt ⟨Try.prog, w0⟩ a0 a1 a2 c0 K) : Eng.cl2 ⟨Try.prog, w0⟩ 14 laws_szAnswer.sg [a0, a1, a2] [c0] K :=
  cl2_of_run (C := ⟨Try.prog, w0⟩) (f := 14) (fn := Try.f14) [(70, laws_szIntS.sg)] [] [] Try.func14 (by kernel_rfl) (by kernel_rfl) (by kernel_rfl) h
/-- laws.toStringS -/
def laws_toStringS.sg : Sg := ⟨[(0, [.t 1 0])], [(0, [.t 1])], []⟩
def laws_toStringS.txt (C : Ctx) (c0 : List T) (K : J2) : Prop :=
 mkW 16 (iv (cnt 1 c0)) (iv (cnt 1 c0)) fun n1 =>
 loopP (fun r4 x2 k3 =>
 prP (bnI .lss (nx x2 0) (iv (cnt 1 c0))) fun t11_6 =>
 cndP t11_6 (
 ixW (cnt 1 c0) (nx x2 0) fun t18_7 =>
 ldc c0 [] ((natOf t18_7) * 1) fun t19_8 =>
 ixW (cnt 1 (nxc k3 0)) (nx x2 0) fun t20_9 =>
 stc (nxc k3 0) [] ((natOf t20_9) * 1) t19_8 fun k10 =>
 prP (bnI .add (nx x2 0) (.int .i64 1)) fun t13_11 =>
 r4 [t13_11] [k10]) (
 K [] [(nxc k3 0)])) [(.int .i64 0)] [(repT (natOf n1) [T.c (.string { data := #[] })])]
theorem laws_toStringS.cl2 {w0 : World} {c0 : List T} {K : J2} (h : laws_toStringS.txt ⟨Try.prog, w0⟩ c0 K) : Eng.cl2 ⟨Try.prog, w0⟩ 77 laws_toStringS.sg [] [c0] K :=
  cl2_of_run (C := ⟨Try.prog, w0⟩) (f := 77) (fn := Try.f77) [] [] [(58, ⟨[.t (.f 0) 1, .t (.j 0) 1, .v], [], [.ls]⟩)] Try.func77 (by kernel_rfl) (by kernel_rfl) (by kernel_rfl) h
/-- laws.toPen -/
def laws_toPen.sg : Sg := ⟨[(1, [.v, .t 1 0])], [(1, [.v, .t 1])], []⟩
def laws_toPen.txt (C : Ctx) (a0 : Value) (c0 : List T) (K : J2) : Prop :=
 cl2 C 77 laws_toStringS.sg [] [c0] fun v1 d2 =>
 K [a0] [(nxc d2 0)]
theorem laws_toPen.cl2 {w0 : World} {a0 : Value} {c0 : List T} {K : J2} (h : laws_toPen.txt ⟨Try.prog, w0⟩ a0 c0 K) : Eng.cl2 ⟨Try.prog, w0⟩ 16 laws_toPen.sg [a0] [c0] K :=
  cl2_of_run (C := ⟨Try.prog, w0⟩) (f := 16) (fn := Try.f16) [(77, laws_toStringS.sg)] [] [] Try.func16 (by kernel_rfl) (by kernel_rfl) (by kernel_rfl) h
/-- laws.toOp -/
def laws_toOp.sg : Sg := ⟨[(1, [.v, .v, .v, .v, .v])], [(1, [.v, .v, .v, .v, .v])], []⟩
def laws_toOp.txt (C : Ctx) (a0 a1 a2 a3 a4 : Value) (K : J2) : Prop :=
 K [a0, a1, a2, a3, a4] []
theorem laws_toOp.cl2 {w0 : World} {a0 a1 a2 a3 a4 : Value} {K : J2} (h : laws_toOp.txt ⟨Try.prog, w0⟩ a0 a1 a2 a3 a4 K) : Eng.cl2 ⟨Try.prog, w0⟩ 17 laws_toOp.sg [a0, a1, a2, a3, a4] [] K :=
  cl2_of_run (C := ⟨Try.prog, w0⟩) (f := 17) (fn := Try.f17) [] [] [] Try.func17 (by kernel_rfl) (by kernel_rfl) (by kernel_rfl) h
/-- laws.toIntS -/
def laws_toIntS.sg : Sg := ⟨[(0, [.t 1 0])], [(0, [.t 1])], []⟩
def laws_toIntS.txt (C : Ctx) (c0 : List T) (K : J2) : Prop :=
 mkW 8 (iv (cnt 1 c0)) (iv (cnt 1 c0)) fun n1 =>
 loopP (fun r4 x2 k3 =>
 prP (bnI .lss (nx x2 0) (iv (cnt 1 c0))) fun t11_6 =>
 cndP t11_6 (
 ixW (cnt 1 c0) (nx x2 0) fun t18_7 =>
 ldc c0 [] ((natOf t18_7) * 1) fun t19_8 =>
 ixW (cnt 1 (nxc k3 0)) (nx x2 0) fun t20_9 =>
 stc (nxc k3 0) [] ((natOf t20_9) * 1) t19_8 fun k10 =>
 prP (bnI .add (nx x2 0) (.int .i64 1)) fun t13_11 =>
 r4 [t13_11] [k10]) (
 K [] [(nxc k3 0)])) [(.int .i64 0)] [(repT (natOf n1) [T.c (.int .i64 0)])]
theorem laws_toIntS.cl2 {w0 : World} {c0 : List T} {K : J2} (h : laws_toIntS.txt ⟨Try.prog, w0⟩ c0 K) : Eng.cl2 ⟨Try.prog, w0⟩ 78 laws_toIntS.sg [] [c0] K :=
  cl2_of_run (C := ⟨Try.prog, w0⟩) (f := 78) (fn := Try.f78) [] [] [(58, ⟨[.t (.f 0) 1, .t (.j 0) 1, .v], [], [.ls]⟩)] Try.func78 (by kernel_rfl) (by kernel_rfl) (by kernel_rfl) h
/-- laws.toAnswer -/
def laws_toAnswer.sg : Sg := ⟨[(1, [.v, .v, .t 1 0])], [(1, [.v, .v, .t 1])], []⟩
def laws_toAnswer.txt (C : Ctx) (a0 a1 : Value) (c0 : List T) (K : J2) : Prop :=
 cl2 C 78 laws_toIntS.sg [] [c0] fun v1 d2 =>
 K [a0, a1] [(nxc d2 0)]
theorem laws_toAnswer.cl2 {w0 : World} {a0 a1 : Value} {c0 : List T} {K : J2} (h : laws_toAnswer.txt ⟨Try.prog, w0⟩ a0 a1 c0 K) : Eng.cl2 ⟨Try.prog, w0⟩ 18 laws_toAnswer.sg [a0, a1] [c0] K :=
  cl2_of_run (C := ⟨Try.prog, w0⟩) (f := 18) (fn := Try.f18) [(78, laws_toIntS.sg)] [] [] Try.func18 (by kernel_rfl) (by kernel_rfl) (by kernel_rfl) h
/-- spec.l1In -/
def spec_l1In.sg : Sg := ⟨[(0, [.v]), (0, [.v]), (0, [.v])], [(0, [.v])], []⟩
def spec_l1In.txt (C : Ctx) (a0 a1 a2 : Value) (K : J2) : Prop :=
 prP (bnI .geq a0 a1) fun t9_1 =>
 gE t9_1 (
 gE t9_1 (
 gP t9_1 true (prP (bnI .leq a0 a2)) fun t13_2 =>
 prP (pk t9_1 t13_2 (.bool false)) fun t14_3 =>
 K [t14_3] []))
theorem spec_l1In.cl2 {w0 : World} {a0 a1 a2 : Value} {K : J2} (h : spec_l1In.txt ⟨Try.prog, w0⟩ a0 a1 a2 K) : Eng.cl2 ⟨Try.prog, w0⟩ 144 spec_l1In.sg [a0, a1, a2] [] K :=
  cl2_of_run (C := ⟨Try.prog, w0⟩) (f := 144) (fn := Try.f144) [] [] [] Try.func144 (by kernel_rfl) (by kernel_rfl) (by kernel_rfl) h
/-- spec.Speakable -/
def spec_Speakable.sg : Sg := ⟨[(1, [.v, .v, .v, .v, .v])], [(0, [.v])], []⟩
def spec_Speakable.txt (C : Ctx) (a0 a1 a2 a3 a4 : Value) (K : J2) : Prop :=
 cl2 C 144 spec_l1In.sg [a0, (.int .i64 (-1000000000)), (.int .i64 1000000000)] [] fun v1 d2 =>
 gE (nx v1 0) (
 gE (nx v1 0) (
 gP (nx v1 0) true ((fun K => cl2 C 144 spec_l1In.sg [a1, (.int .i64 (-1000000000)), (.int .i64 1000000000)] [] fun v4 d5 => K (nx v4 0))) fun t9_6 =>
 prP (pk (nx v1 0) t9_6 (.bool false)) fun t10_7 =>
 gE t10_7 (
 gE t10_7 (
 gP t10_7 true ((fun K => cl2 C 144 spec_l1In.sg [a2, (.int .i64 (-1000000000)), (.int .i64 1000000000)] [] fun v8 d9 => K (nx v8 0))) fun t14_10 =>
 prP (pk t10_7 t14_10 (.bool false)) fun t15_11 =>
 gE t15_11 (
 gE t15_11 (
 gP t15_11 true ((fun K => cl2 C 144 spec_l1In.sg [a3, (.int .i64 (-1000000000)), (.int .i64 1000000000)] [] fun v12 d13 => K (nx v12 0))) fun t19_14 =>
 prP (pk t15_11 t19_14 (.bool false)) fun t20_15 =>
 gE t20_15 (
 gE t20_15 (
 gP t20_15 true (prP (lnS a4)) fun t24_16 =>
 gP t20_15 true (prP (bnI .leq t24_16 (.int .i64 8))) fun t25_17 =>
 prP (pk t20_15 t25_17 (.bool false)) fun t26_18 =>
 K [t26_18] []))))))))
theorem spec_Speakable.cl2 {w0 : World} {a0 a1 a2 a3 a4 : Value} {K : J2} (h : spec_Speakable.txt ⟨Try.prog, w0⟩ a0 a1 a2 a3 a4 K) : Eng.cl2 ⟨Try.prog, w0⟩ 71 spec_Speakable.sg [a0, a1, a2, a3, a4] [] K :=
  cl2_of_run (C := ⟨Try.prog, w0⟩) (f := 71) (fn := Try.f71) [(144, spec_l1In.sg)] [] [] Try.func71 (by kernel_rfl) (by kernel_rfl) (by kernel_rfl) h
/-- spec.l10AnswerOk -/
def spec_l10AnswerOk.sg : Sg := ⟨[(1, [.v, .v, .t 1 0])], [(0, [.v])], []⟩
def spec_l10AnswerOk.txt (C : Ctx) (a0 a1 : Value) (c0 : List T) (K : J2) : Prop :=
 cl2 C 144 spec_l1In.sg [a0, (.int .i64 0), (.int .i64 6)] [] fun v1 d2 =>
 prP (un .not (nx v1 0)) fun t7_4 =>
 gE t7_4 (
 gE t7_4 (
 gP t7_4 false ((fun K => cl2 C 144 spec_l1In.sg [a1, (.int .i64 (-1000000000)), (.int .i64 1000000000)] [] fun v5 d6 => K (nx v5 0))) fun t11_7 =>
 gP t7_4 false (prP (un .not t11_7)) fun t12_8 =>
 prP (pk t7_4 (.bool true) t12_8) fun t13_9 =>
 gE t13_9 (
 gE t13_9 (
 gE t13_9 (
 gP t13_9 false (prP (bnI .gtr (iv (cnt 1 c0)) (.int .i64 8))) fun t18_10 =>
 prP (pk t13_9 (.bool true) t18_10) fun t19_11 =>
 cndP t19_11 (
 K [(.bool false)] []) (
 loopP (fun r14 x12 k13 =>
 prP (bnI .lss (nx x12 0) (iv (cnt 1 c0))) fun t24_16 =>
 cndP t24_16 (
 ixW (cnt 1 c0) (nx x12 0) fun t30_17 =>
 ldc c0 [] ((natOf t30_17) * 1) fun t31_18 =>
 cl2 C 144 spec_l1In.sg [t31_18, (.int .i64 (-1000000000)), (.int .i64 1000000000)] [] fun v19 d20 =>
 prP (un .not (nx v19 0)) fun t33_22 =>
 cndP t33_22 (
 K [(.bool false)] []) (
 prP (bnI .add (nx x12 0) (.int .i64 1)) fun t26_23 =>
 r14 [t26_23, (nx x12 1), (nx x12 2)] [])) (
 K [(.bool true)] [])) [(.int .i64 0), a0, a1] []))))))
theorem spec_l10AnswerOk.cl2 {w0 : World} {a0 a1 : Value} {c0 : List T} {K : J2} (h : spec_l10AnswerOk.txt ⟨Try.prog, w0⟩ a0 a1 c0 K) : Eng.cl2 ⟨Try.prog, w0⟩ 72 spec_l10AnswerOk.sg [a0, a1] [c0] K :=
  cl2_of_run (C := ⟨Try.prog, w0⟩) (f := 72) (fn := Try.f72) [(144, spec_l1In.sg)] [] [(58, ⟨[.p (.j 0) 0, .v], [], [.bx [.v, .v, .t (.f 0) 1]]⟩)] Try.func72 (by kernel_rfl) (by kernel_rfl) (by kernel_rfl) h
/-- spec.l10PenOk -/
def spec_l10PenOk.sg : Sg := ⟨[(1, [.v, .t 1 0])], [(0, [.v])], []⟩
def spec_l10PenOk.txt (C : Ctx) (a0 : Value) (c0 : List T) (K : J2) : Prop :=
 loopP (fun r3 x1 k2 =>
 prP (bnI .lss (nx x1 0) (iv (cnt 1 c0))) fun t9_5 =>
 cndP t9_5 (
 ixW (cnt 1 c0) (nx x1 0) fun t15_6 =>
 ldc c0 [] ((natOf t15_6) * 1) fun t16_7 =>
 prP (lnS t16_7) fun t17_8 =>
 prP (bnI .gtr t17_8 (.int .i64 8)) fun t18_9 =>
 cndP t18_9 (
 K [(.bool false)] []) (
 loopP (fun r12 x10 k11 =>
 prP (bnI .lss (nx x10 1) (nx x10 0)) fun t21_14 =>
 cndP t21_14 (
 ixW (cnt 1 c0) (nx x10 1) fun t27_15 =>
 ldc c0 [] ((natOf t27_15) * 1) fun t28_16 =>
 ixW (cnt 1 c0) (nx x10 0) fun t32_17 =>
 ldc c0 [] ((natOf t32_17) * 1) fun t33_18 =>
 prP (bnS .eql t28_16 t33_18) fun t34_19 =>
 cndP t34_19 (
 K [(.bool false)] []) (
 prP (bnI .add (nx x10 1) (.int .i64 1)) fun t23_20 =>
 r12 [(nx x10 0), t23_20, (nx x10 2)] [])) (
 prP (bnI .add (nx x10 0) (.int .i64 1)) fun t11_21 =>
 r3 [t11_21, (nx x10 2)] [])) [(nx x1 0), (.int .i64 0), (nx x1 1)] [])) (
 cl2 C 144 spec_l1In.sg [(nx x1 1), (.int .i64 (-1000000000)), (.int .i64 1000000000)] [] fun v22 d23 =>
 gE (nx v22 0) (
 gE (nx v22 0) (
 gE (nx v22 0) (
 gP (nx v22 0) true (prP (bnI .leq (iv (cnt 1 c0)) (.int .i64 400))) fun t42_25 =>
 prP (pk (nx v22 0) t42_25 (.bool false)) fun t43_26 =>
 K [t43_26] []))))) [(.int .i64 0), a0] []
theorem spec_l10PenOk.cl2 {w0 : World} {a0 : Value} {c0 : List T} {K : J2} (h : spec_l10PenOk.txt ⟨Try.prog, w0⟩ a0 c0 K) : Eng.cl2 ⟨Try.prog, w0⟩ 73 spec_l10PenOk.sg [a0] [c0] K :=
  cl2_of_run (C := ⟨Try.prog, w0⟩) (f := 73) (fn := Try.f73) [(144, spec_l1In.sg)] [(9, [0, 1, 0, 7, 15, 0, 32, 0, 224, 480, 1023])] [(3366, ⟨[.p (.j 0) 0, .v, .v], [], [.bx [.v, .t (.f 0) 1]]⟩), (26, ⟨[.p (.j 0) 0, .v], [], [.bx [.v, .t (.f 0) 1]]⟩)] Try.func73 (by kernel_rfl) (by kernel_rfl) (by kernel_rfl) h
/-- spec.Var -/
def spec_Var.sg : Sg := ⟨[(0, [.v])], [(0, [.v])], []⟩
def spec_Var.txt (C : Ctx) (a0 : Value) (K : J2) : Prop :=
 cl2 C 144 spec_l1In.sg [a0, (.int .i64 0), (.int .i64 562949953421311)] [] fun v1 d2 =>
 prP (un .not (nx v1 0)) fun t6_4 =>
 cndP t6_4 (
 K [(.string { data := #[] })] []) (
 loopP (fun r7 x5 k6 =>
 prP (bnI .geq (nx x5 0) (.int .i64 128)) fun t9_9 =>
 cndP t9_9 (
 prP (bnI .rem (nx x5 0) (.int .i64 128)) fun t12_10 =>
 prP (bnI .add (.int .i64 128) t12_10) fun t13_11 =>
 prP (cvI .u8 t13_11) fun t14_12 =>
 apW [T.c t14_12] true (cnt 1 (nxc k6 0)) (cnt 1 [T.c t14_12]) 1 (
 prP (bnI .quo (nx x5 0) (.int .i64 128)) fun t18_13 =>
 r7 [t18_13] [((nxc k6 0) ++ [T.c t14_12])])) (
 prP (cvI .u8 (nx x5 0)) fun t21_14 =>
 apW [T.c t21_14] true (cnt 1 (nxc k6 0)) (cnt 1 [T.c t21_14]) 1 (
 prP (b2T ((nxc k6 0) ++ [T.c t21_14])) fun t24_15 =>
 K [t24_15] []))) [a0] [[]])
theorem spec_Var.cl2 {w0 : World} {a0 : Value} {K : J2} (h : spec_Var.txt ⟨Try.prog, w0⟩ a0 K) : Eng.cl2 ⟨Try.prog, w0⟩ 76 spec_Var.sg [a0] [] K :=
  cl2_of_run (C := ⟨Try.prog, w0⟩) (f := 76) (fn := Try.f76) [(144, spec_l1In.sg)] [] [(60, ⟨[.v, .t (.j 0) 1], [], [.ls]⟩)] Try.func76 (by kernel_rfl) (by kernel_rfl) (by kernel_rfl) h
/-- spec.ShowText -/
def spec_ShowText.sg : Sg := ⟨[(0, [.v])], [(0, [.v])], []⟩
def spec_ShowText.txt (C : Ctx) (a0 : Value) (K : J2) : Prop :=
 prP (lnS a0) fun t4_1 =>
 prP (bnI .gtr t4_1 (.int .i64 8)) fun t5_2 =>
 cndP t5_2 (
 K [(.string { data := #[] })] []) (
 prP (lnS a0) fun t7_3 =>
 cl2 C 76 spec_Var.sg [t7_3] [] fun v4 d5 =>
 prP (bnS .add (nx v4 0) a0) fun t10_7 =>
 K [t10_7] [])
theorem spec_ShowText.cl2 {w0 : World} {a0 : Value} {K : J2} (h : spec_ShowText.txt ⟨Try.prog, w0⟩ a0 K) : Eng.cl2 ⟨Try.prog, w0⟩ 145 spec_ShowText.sg [a0] [] K :=
  cl2_of_run (C := ⟨Try.prog, w0⟩) (f := 145) (fn := Try.f145) [(76, spec_Var.sg)] [] [] Try.func145 (by kernel_rfl) (by kernel_rfl) (by kernel_rfl) h
/-- spec.l10Site -/
def spec_l10Site.sg : Sg := ⟨[(1, [.v, .t 1 0]), (0, [.v])], [(0, [.v]), (1, [.v, .t 1])], []⟩
def spec_l10Site.txt (C : Ctx) (a0 a1 : Value) (c0 : List T) (K : J2) : Prop :=
 apW c0 true (cnt 1 []) (cnt 1 c0) 16 (
 loopP (fun r3 x1 k2 =>
 prP (bnI .lss (nx x1 1) (iv (cnt 1 c0))) fun t19_5 =>
 cndP t19_5 (
 ixW (cnt 1 c0) (nx x1 1) fun t25_6 =>
 ldc c0 [] ((natOf t25_6) * 1) fun t26_7 =>
 prP (bnS .eql t26_7 (nx x1 0)) fun t28_8 =>
 cndP t28_8 (
 prP (bnI .add (nx x1 1) (.int .i64 1)) fun t30_9 =>
 cl2 C 76 spec_Var.sg [t30_9] [] fun v10 d11 =>
 K [(nx v10 0), (nx x1 4)] [(nxc k2 0)]) (
 prP (bnI .add (nx x1 1) (.int .i64 1)) fun t21_13 =>
 r3 [(nx x1 0), t21_13, (nx x1 2), (nx x1 3), (nx x1 4)] [(nxc k2 0)])) (
 apW [T.c (nx x1 0)] true (cnt 1 (nxc k2 0)) (cnt 1 [T.c (nx x1 0)]) 16 (
 cl2 C 76 spec_Var.sg [(.int .i64 0)] [] fun v14 d15 =>
 cl2 C 145 spec_ShowText.sg [(nx x1 0)] [] fun v17 d18 =>
 prP (bnS .add (nx v14 0) (nx v17 0)) fun t42_20 =>
 K [t42_20, (nx x1 4)] [((nxc k2 0) ++ [T.c (nx x1 0)])]))) [a1, (.int .i64 0), a0, (.int .i64 0), a0] [([] ++ c0)])
theorem spec_l10Site.cl2 {w0 : World} {a0 a1 : Value} {c0 : List T} {K : J2} (h : spec_l10Site.txt ⟨Try.prog, w0⟩ a0 a1 c0 K) : Eng.cl2 ⟨Try.prog, w0⟩ 74 spec_l10Site.sg [a0, a1] [c0] K :=
  cl2_of_run (C := ⟨Try.prog, w0⟩) (f := 74) (fn := Try.f74) [(76, spec_Var.sg), (145, spec_ShowText.sg)] [(1, [0, 1, 0, 0, 8, 28, 63, 0, 255]), (6, [0, 1, 3, 0, 7, 31]), (8, [0, 0, 3, 7, 0, 15, 63])] [(58, ⟨[.v, .p (.j 0) 0, .p (.j 1) 0, .p (.j 2) 0, .v], [], [.bx [.v, .t (.f 0) 1], .bx [.v, .z], .bx [.v, .t (.j 3) 1], .ls]⟩)] Try.func74 (by kernel_rfl) (by kernel_rfl) (by kernel_rfl) h
/-- spec.Zig -/
def spec_Zig.sg : Sg := ⟨[(0, [.v])], [(0, [.v])], []⟩
def spec_Zig.txt (C : Ctx) (a0 : Value) (K : J2) : Prop :=
 cl2 C 144 spec_l1In.sg [a0, (.int .i64 (-100000000000000)), (.int .i64 100000000000000)] [] fun v1 d2 =>
 prP (un .not (nx v1 0)) fun t5_4 =>
 cndP t5_4 (
 K [(.int .i64 (-1))] []) (
 prP (bnI .lss a0 (.int .i64 0)) fun t7_5 =>
 cndP t7_5 (
 prP (bnI .mul (.int .i64 (-2)) a0) fun t9_6 =>
 prP (bnI .sub t9_6 (.int .i64 1)) fun t10_7 =>
 K [t10_7] []) (
 prP (bnI .mul (.int .i64 2) a0) fun t12_8 =>
 K [t12_8] []))
theorem spec_Zig.cl2 {w0 : World} {a0 : Value} {K : J2} (h : spec_Zig.txt ⟨Try.prog, w0⟩ a0 K) : Eng.cl2 ⟨Try.prog, w0⟩ 146 spec_Zig.sg [a0] [] K :=
  cl2_of_run (C := ⟨Try.prog, w0⟩) (f := 146) (fn := Try.f146) [(144, spec_l1In.sg)] [] [] Try.func146 (by kernel_rfl) (by kernel_rfl) (by kernel_rfl) h
/-- spec.ShowInt -/
def spec_ShowInt.sg : Sg := ⟨[(0, [.v])], [(0, [.v])], []⟩
def spec_ShowInt.txt (C : Ctx) (a0 : Value) (K : J2) : Prop :=
 cl2 C 146 spec_Zig.sg [a0] [] fun v1 d2 =>
 prP (bnI .lss (nx v1 0) (.int .i64 0)) fun t7_4 =>
 cndP t7_4 (
 K [(.string { data := #[] })] []) (
 cl2 C 76 spec_Var.sg [(nx v1 0)] [] fun v5 d6 =>
 K [(nx v5 0)] [])
theorem spec_ShowInt.cl2 {w0 : World} {a0 : Value} {K : J2} (h : spec_ShowInt.txt ⟨Try.prog, w0⟩ a0 K) : Eng.cl2 ⟨Try.prog, w0⟩ 75 spec_ShowInt.sg [a0] [] K :=
  cl2_of_run (C := ⟨Try.prog, w0⟩) (f := 75) (fn := Try.f75) [(146, spec_Zig.sg), (76, spec_Var.sg)] [] [] Try.func75 (by kernel_rfl) (by kernel_rfl) (by kernel_rfl) h
/-- spec.ShowEvent -/
def spec_ShowEvent.sg : Sg := ⟨[(1, [.v, .t 1 0]), (1, [.v, .v, .v, .v, .v]), (1, [.v, .v, .t 1 0])], [(0, [.v]), (1, [.v, .t 1])], []⟩
def spec_ShowEvent.txt (C : Ctx) (a0 a1 a2 a3 a4 a5 a6 a7 : Value) (c0 c1 : List T) (K : J2) : Prop :=
 cl2 C 71 spec_Speakable.sg [a1, a2, a3, a4, a5] [] fun v1 d2 =>
 prP (un .not (nx v1 0)) fun t15_4 =>
 gE t15_4 (
 gP t15_4 false ((fun K => cl2 C 72 spec_l10AnswerOk.sg [a6, a7] [c1] fun v5 d6 => K (nx v5 0))) fun t18_7 =>
 gP t15_4 false (prP (un .not t18_7)) fun t19_8 =>
 prP (pk t15_4 (.bool true) t19_8) fun t20_9 =>
 gE t20_9 (
 gP t20_9 false ((fun K => cl2 C 73 spec_l10PenOk.sg [a0] [c0] fun v10 d11 => K (nx v10 0))) fun t23_12 =>
 gP t20_9 false (prP (un .not t23_12)) fun t24_13 =>
 prP (pk t20_9 (.bool true) t24_13) fun t25_14 =>
 cndP t25_14 (
 apW c0 true (cnt 1 []) (cnt 1 c0) 16 (
 K [(.string { data := #[] }), a0] [([] ++ c0)])) (
 cl2 C 74 spec_l10Site.sg [a0, a5] [c0] fun v15 d16 =>
 cl2 C 75 spec_ShowInt.sg [a1] [] fun v17 d18 =>
 prP (bnI .sub a2 a0) fun t47_20 =>
 cl2 C 75 spec_ShowInt.sg [t47_20] [] fun v21 d22 =>
 prP (bnS .add (nx v17 0) (nx v21 0)) fun t49_24 =>
 cl2 C 75 spec_ShowInt.sg [a3] [] fun v25 d26 =>
 prP (bnS .add t49_24 (nx v25 0)) fun t53_28 =>
 prP (bnI .sub a4 a2) fun t58_29 =>
 cl2 C 75 spec_ShowInt.sg [t58_29] [] fun v30 d31 =>
 prP (bnS .add t53_28 (nx v30 0)) fun t60_33 =>
 prP (bnS .add t60_33 (nx v15 0)) fun t62_34 =>
 cl2 C 76 spec_Var.sg [a6] [] fun v35 d36 =>
 prP (bnS .add t62_34 (nx v35 0)) fun t66_38 =>
 prP (bnI .sub a7 a2) fun t71_39 =>
 cl2 C 75 spec_ShowInt.sg [t71_39] [] fun v40 d41 =>
 prP (bnS .add t66_38 (nx v40 0)) fun t73_43 =>
 cl2 C 76 spec_Var.sg [(iv (cnt 1 c1))] [] fun v44 d45 =>
 prP (bnS .add t73_43 (nx v44 0)) fun t78_47 =>
 loopP (fun r50 x48 k49 =>
 prP (bnI .lss (nx x48 2) (iv (cnt 1 c1))) fun t85_52 =>
 cndP t85_52 (
 ixW (cnt 1 c1) (nx x48 2) fun t92_53 =>
 ldc c1 [] ((natOf t92_53) * 1) fun t93_54 =>
 prP (bnI .sub t93_54 (nx x48 1)) fun t95_55 =>
 cl2 C 75 spec_ShowInt.sg [t95_55] [] fun v56 d57 =>
 prP (bnS .add (nx x48 0) (nx v56 0)) fun t97_59 =>
 ixW (cnt 1 c1) (nx x48 2) fun t101_60 =>
 ldc c1 [] ((natOf t101_60) * 1) fun t102_61 =>
 prP (bnI .add (nx x48 2) (.int .i64 1)) fun t87_62 =>
 r50 [t97_59, t102_61, t87_62, (nx x48 3), (nx x48 4), (nx x48 5), (nx x48 6), (nx x48 7), (nx x48 8), (nx x48 9), (nx x48 10), (nx x48 11)] [(nxc k49 0)]) (
 K [(nx x48 0), (nx x48 4)] [(nxc k49 0)])) [t78_47, a2, (.int .i64 0), a1, a2, a3, a4, a5, a6, a7, (.int .i64 0), (nx v15 1)] [(nxc d16 0)])))
theorem spec_ShowEvent.cl2 {w0 : World} {a0 a1 a2 a3 a4 a5 a6 a7 : Value} {c0 c1 : List T} {K : J2} (h : spec_ShowEvent.txt ⟨Try.prog, w0⟩ a0 a1 a2 a3 a4 a5 a6 a7 c0 c1 K) : Eng.cl2 ⟨Try.prog, w0⟩ 15 spec_ShowEvent.sg [a0, a1, a2, a3, a4, a5, a6, a7] [c0, c1] K :=
  cl2_of_run (C := ⟨Try.prog, w0⟩) (f := 15) (fn := Try.f15) [(71, spec_Speakable.sg), (72, spec_l10AnswerOk.sg), (73, spec_l10PenOk.sg), (74, spec_l10Site.sg), (75, spec_ShowInt.sg), (76, spec_Var.sg)] [(2, [0, 1, 0, 0, 8, 28, 63, 60, 255]), (4, [0, 1, 3, 0, 8, 0, 32, 120, 255, 511, 0, 1024, 3583, 8191, 0, 16384, 0, 65536, 245760, 515583, 1048575, 0, 4194303, 0, 8388608, 26205695, 67108863, 0, 134217728, 0, 536870912, 2013265920, 4220509695, 8589934591, 0, 17179869184, 51539607552, 128774561279, 274877906943, 549755813887]), (12, [0, 0, 1, 7])] [(506, ⟨[.p (.j 0) 0, .p (.j 1) 0, .p (.j 2) 0, .p (.j 3) 0, .v, .v, .v], [], [.bx [.v, .v, .v, .v, .v], .bx [.v, .v, .t (.f 1) 1], .bx [.v, .z], .bx [.v, .t (.j 4) 1], .ls]⟩)] Try.func15 (by kernel_rfl) (by kernel_rfl) (by kernel_rfl) h
/-- impl.copyTexts -/
def impl_copyTexts.sg : Sg := ⟨[(0, [.t 1 0])], [(0, [.t 1])], []⟩
def impl_copyTexts.txt (C : Ctx) (c0 : List T) (K : J2) : Prop :=
 apW c0 true 0 (cnt 1 c0) 16 (
 K [] [([] ++ c0)])
theorem impl_copyTexts.cl2 {w0 : World} {c0 : List T} {K : J2} (h : impl_copyTexts.txt ⟨Try.prog, w0⟩ c0 K) : Eng.cl2 ⟨Try.prog, w0⟩ 135 impl_copyTexts.sg [] [c0] K :=
  cl2_of_run (C := ⟨Try.prog, w0⟩) (f := 135) (fn := Try.f135) [] [] [] Try.func135 (by kernel_rfl) (by kernel_rfl) (by kernel_rfl) h
/-- impl.copyPen -/
def impl_copyPen.sg : Sg := ⟨[(1, [.v, .t 1 0])], [(1, [.v, .t 1])], []⟩
def impl_copyPen.txt (C : Ctx) (a0 : Value) (c0 : List T) (K : J2) : Prop :=
 cl2 C 135 impl_copyTexts.sg [] [c0] fun v1 d2 =>
 K [a0] [(nxc d2 0)]
theorem impl_copyPen.cl2 {w0 : World} {a0 : Value} {c0 : List T} {K : J2} (h : impl_copyPen.txt ⟨Try.prog, w0⟩ a0 c0 K) : Eng.cl2 ⟨Try.prog, w0⟩ 79 impl_copyPen.sg [a0] [c0] K :=
  cl2_of_run (C := ⟨Try.prog, w0⟩) (f := 79) (fn := Try.f79) [(135, impl_copyTexts.sg)] [(1, [0, 1, 0, 4, 12, 31, 63])] [] Try.func79 (by kernel_rfl) (by kernel_rfl) (by kernel_rfl) h
/-- impl.in -/
def impl_in.sg : Sg := ⟨[(0, [.v]), (0, [.v]), (0, [.v])], [(0, [.v])], []⟩
def impl_in.txt (C : Ctx) (a0 a1 a2 : Value) (K : J2) : Prop :=
 prP (bnI .geq a0 a1) fun t9_1 =>
 gE t9_1 (
 gE t9_1 (
 gP t9_1 true (prP (bnI .leq a0 a2)) fun t13_2 =>
 prP (pk t9_1 t13_2 (.bool false)) fun t14_3 =>
 K [t14_3] []))
theorem impl_in.cl2 {w0 : World} {a0 a1 a2 : Value} {K : J2} (h : impl_in.txt ⟨Try.prog, w0⟩ a0 a1 a2 K) : Eng.cl2 ⟨Try.prog, w0⟩ 147 impl_in.sg [a0, a1, a2] [] K :=
  cl2_of_run (C := ⟨Try.prog, w0⟩) (f := 147) (fn := Try.f147) [] [] [] Try.func147 (by kernel_rfl) (by kernel_rfl) (by kernel_rfl) h
/-- impl.isArg -/
def impl_isArg.sg : Sg := ⟨[(0, [.v])], [(0, [.v])], []⟩
def impl_isArg.txt (C : Ctx) (a0 : Value) (K : J2) : Prop :=
 cl2 C 147 impl_in.sg [a0, (.int .i64 (-1000000000)), (.int .i64 1000000000)] [] fun v1 d2 =>
 K [(nx v1 0)] []
theorem impl_isArg.cl2 {w0 : World} {a0 : Value} {K : J2} (h : impl_isArg.txt ⟨Try.prog, w0⟩ a0 K) : Eng.cl2 ⟨Try.prog, w0⟩ 109 impl_isArg.sg [a0] [] K :=
  cl2_of_run (C := ⟨Try.prog, w0⟩) (f := 109) (fn := Try.f109) [(147, impl_in.sg)] [] [] Try.func109 (by kernel_rfl) (by kernel_rfl) (by kernel_rfl) h
/-- impl.Speakable -/
def impl_Speakable.sg : Sg := ⟨[(1, [.v, .v, .v, .v, .v])], [(0, [.v])], []⟩
def impl_Speakable.txt (C : Ctx) (a0 a1 a2 a3 a4 : Value) (K : J2) : Prop :=
 cl2 C 109 impl_isArg.sg [a0] [] fun v1 d2 =>
 gE (nx v1 0) (
 gE (nx v1 0) (
 gP (nx v1 0) true ((fun K => cl2 C 109 impl_isArg.sg [a1] [] fun v4 d5 => K (nx v4 0))) fun t9_6 =>
 prP (pk (nx v1 0) t9_6 (.bool false)) fun t10_7 =>
 gE t10_7 (
 gE t10_7 (
 gP t10_7 true ((fun K => cl2 C 109 impl_isArg.sg [a2] [] fun v8 d9 => K (nx v8 0))) fun t14_10 =>
 prP (pk t10_7 t14_10 (.bool false)) fun t15_11 =>
 gE t15_11 (
 gE t15_11 (
 gP t15_11 true ((fun K => cl2 C 109 impl_isArg.sg [a3] [] fun v12 d13 => K (nx v12 0))) fun t19_14 =>
 prP (pk t15_11 t19_14 (.bool false)) fun t20_15 =>
 gE t20_15 (
 gE t20_15 (
 gP t20_15 true (prP (lnS a4)) fun t24_16 =>
 gP t20_15 true (prP (bnI .leq t24_16 (.int .i64 8))) fun t25_17 =>
 prP (pk t20_15 t25_17 (.bool false)) fun t26_18 =>
 K [t26_18] []))))))))
theorem impl_Speakable.cl2 {w0 : World} {a0 a1 a2 a3 a4 : Value} {K : J2} (h : impl_Speakable.txt ⟨Try.prog, w0⟩ a0 a1 a2 a3 a4 K) : Eng.cl2 ⟨Try.prog, w0⟩ 48 impl_Speakable.sg [a0, a1, a2, a3, a4] [] K :=
  cl2_of_run (C := ⟨Try.prog, w0⟩) (f := 48) (fn := Try.f48) [(109, impl_isArg.sg)] [] [] Try.func48 (by kernel_rfl) (by kernel_rfl) (by kernel_rfl) h
/-- impl.answerable -/
def impl_answerable.sg : Sg := ⟨[(1, [.v, .v, .t 1 0])], [(0, [.v])], []⟩
def impl_answerable.txt (C : Ctx) (a0 a1 : Value) (c0 : List T) (K : J2) : Prop :=
 loopP (fun r3 x1 k2 =>
 prP (bnI .lss (nx x1 1) (nx x1 0)) fun t9_5 =>
 cndP t9_5 (
 ixW (cnt 1 c0) (nx x1 1) fun t10_6 =>
 ldc c0 [] ((natOf t10_6) * 1) fun t11_7 =>
 cl2 C 109 impl_isArg.sg [t11_7] [] fun v8 d9 =>
 prP (un .not (nx v8 0)) fun t14_11 =>
 cndP t14_11 (
 K [(.bool false)] []) (
 prP (bnI .add (nx x1 1) (.int .i64 1)) fun t15_12 =>
 r3 [(nx x1 0), t15_12, (nx x1 2), (nx x1 3)] [])) (
 cl2 C 147 impl_in.sg [(nx x1 2), (.int .i64 0), (.int .i64 6)] [] fun v13 d14 =>
 gE (nx v13 0) (
 gE (nx v13 0) (
 gP (nx v13 0) true ((fun K => cl2 C 109 impl_isArg.sg [(nx x1 3)] [] fun v16 d17 => K (nx v16 0))) fun t22_18 =>
 prP (pk (nx v13 0) t22_18 (.bool false)) fun t23_19 =>
 gE t23_19 (
 gE t23_19 (
 gE t23_19 (
 gP t23_19 true (prP (bnI .leq (iv (cnt 1 c0)) (.int .i64 8))) fun t28_20 =>
 prP (pk t23_19 t28_20 (.bool false)) fun t29_21 =>
 K [t29_21] []))))))) [(iv (cnt 1 c0)), (.int .i64 0), a0, a1] []
theorem impl_answerable.cl2 {w0 : World} {a0 a1 : Value} {c0 : List T} {K : J2} (h : impl_answerable.txt ⟨Try.prog, w0⟩ a0 a1 c0 K) : Eng.cl2 ⟨Try.prog, w0⟩ 80 impl_answerable.sg [a0, a1] [c0] K :=
  cl2_of_run (C := ⟨Try.prog, w0⟩) (f := 80) (fn := Try.f80) [(109, impl_isArg.sg), (147, impl_in.sg)] [] [(26, ⟨[.p (.j 0) 0, .t (.f 0) 1, .v, .v], [], [.bx [.v, .v, .t (.f 0) 1]]⟩)] Try.func80 (by kernel_rfl) (by kernel_rfl) (by kernel_rfl) h
/-- impl.textAt -/
def impl_textAt.sg : Sg := ⟨[(0, [.t 1 0]), (0, [.v])], [(0, [.v])], []⟩
def impl_textAt.txt (C : Ctx) (a0 : Value) (c0 : List T) (K : J2) : Prop :=
 loopP (fun r3 x1 k2 =>
 prP (bnI .lss (nx x1 2) (nx x1 1)) fun t10_5 =>
 cndP t10_5 (
 ixW (cnt 1 c0) (nx x1 2) fun t12_6 =>
 ldc c0 [] ((natOf t12_6) * 1) fun t13_7 =>
 prP (bnS .eql t13_7 (nx x1 0)) fun t16_8 =>
 cndP t16_8 (
 K [(nx x1 2)] []) (
 prP (bnI .add (nx x1 2) (.int .i64 1)) fun t18_9 =>
 r3 [(nx x1 0), (nx x1 1), t18_9] [])) (
 K [(.int .i64 (-1))] [])) [a0, (iv (cnt 1 c0)), (.int .i64 0)] []
theorem impl_textAt.cl2 {w0 : World} {a0 : Value} {c0 : List T} {K : J2} (h : impl_textAt.txt ⟨Try.prog, w0⟩ a0 c0 K) : Eng.cl2 ⟨Try.prog, w0⟩ 83 impl_textAt.sg [a0] [c0] K :=
  cl2_of_run (C := ⟨Try.prog, w0⟩) (f := 83) (fn := Try.f83) [] [] [(26, ⟨[.v, .t (.f 0) 1, .v, .v], [], []⟩)] Try.func83 (by kernel_rfl) (by kernel_rfl) (by kernel_rfl) h
/-- impl.hasText -/
def impl_hasText.sg : Sg := ⟨[(0, [.t 1 0]), (0, [.v])], [(0, [.v])], []⟩
def impl_hasText.txt (C : Ctx) (a0 : Value) (c0 : List T) (K : J2) : Prop :=
 cl2 C 83 impl_textAt.sg [a0] [c0] fun v1 d2 =>
 prP (bnI .geq (nx v1 0) (.int .i64 0)) fun t8_4 =>
 K [t8_4] []
theorem impl_hasText.cl2 {w0 : World} {a0 : Value} {c0 : List T} {K : J2} (h : impl_hasText.txt ⟨Try.prog, w0⟩ a0 c0 K) : Eng.cl2 ⟨Try.prog, w0⟩ 148 impl_hasText.sg [a0] [c0] K :=
  cl2_of_run (C := ⟨Try.prog, w0⟩) (f := 148) (fn := Try.f148) [(83, impl_textAt.sg)] [] [] Try.func148 (by kernel_rfl) (by kernel_rfl) (by kernel_rfl) h
/-- impl.penOk -/
def impl_penOk.sg : Sg := ⟨[(1, [.v, .t 1 0])], [(0, [.v])], []⟩
def impl_penOk.txt (C : Ctx) (a0 : Value) (c0 : List T) (K : J2) : Prop :=
 loopP (fun r3 x1 k2 =>
 prP (bnI .lss (nx x1 1) (nx x1 0)) fun t9_5 =>
 cndP t9_5 (
 ixW (cnt 1 c0) (nx x1 1) fun t11_6 =>
 ldc c0 [] ((natOf t11_6) * 1) fun t12_7 =>
 prP (lnS t12_7) fun t14_8 =>
 prP (bnI .gtr t14_8 (.int .i64 8)) fun t15_9 =>
 gE t15_9 (
 gE t15_9 (
 gE t15_9 (
 gP t15_9 false ((fun K => scW (cnt 1 c0) none (some (nx x1 1)) fun l m => K (two l m))) fun t20_10 =>
 gE t15_9 (
 gP t15_9 false ((fun K => cl2 C 148 impl_hasText.sg [t12_7] [(sub2 c0 [] ((natOf (fst2 t20_10)) * 1) ((natOf (snd2 t20_10)) * 1))] fun v11 d12 => K (nx v11 0))) fun t22_13 =>
 prP (pk t15_9 (.bool true) t22_13) fun t23_14 =>
 cndP t23_14 (
 K [(.bool false)] []) (
 prP (bnI .add (nx x1 1) (.int .i64 1)) fun t24_15 =>
 r3 [(nx x1 0), t24_15, (nx x1 2)] [])))))) (
 cl2 C 109 impl_isArg.sg [(nx x1 2)] [] fun v16 d17 =>
 gE (nx v16 0) (
 gE (nx v16 0) (
 gE (nx v16 0) (
 gP (nx v16 0) true (prP (bnI .leq (iv (cnt 1 c0)) (.int .i64 400))) fun t32_19 =>
 prP (pk (nx v16 0) t32_19 (.bool false)) fun t33_20 =>
 K [t33_20] []))))) [(iv (cnt 1 c0)), (.int .i64 0), a0] []
theorem impl_penOk.cl2 {w0 : World} {a0 : Value} {c0 : List T} {K : J2} (h : impl_penOk.txt ⟨Try.prog, w0⟩ a0 c0 K) : Eng.cl2 ⟨Try.prog, w0⟩ 81 impl_penOk.sg [a0] [c0] K :=
  cl2_of_run (C := ⟨Try.prog, w0⟩) (f := 81) (fn := Try.f81) [(148, impl_hasText.sg), (109, impl_isArg.sg)] [] [(26, ⟨[.p (.j 0) 0, .t (.f 0) 1, .v, .v], [], [.bx [.v, .t (.f 0) 1]]⟩)] Try.func81 (by kernel_rfl) (by kernel_rfl) (by kernel_rfl) h
/-- impl.Zig -/
def impl_Zig.sg : Sg := ⟨[(0, [.v])], [(0, [.v])], []⟩
def impl_Zig.txt (C : Ctx) (a0 : Value) (K : J2) : Prop :=
 cl2 C 147 impl_in.sg [a0, (.int .i64 (-100000000000000)), (.int .i64 100000000000000)] [] fun v1 d2 =>
 prP (un .not (nx v1 0)) fun t6_4 =>
 cndP t6_4 (
 K [(.int .i64 (-1))] []) (
 prP (bnI .lss a0 (.int .i64 0)) fun t9_5 =>
 cndP t9_5 (
 prP (bnI .mul (.int .i64 (-2)) a0) fun t11_6 =>
 prP (bnI .sub t11_6 (.int .i64 1)) fun t12_7 =>
 K [t12_7] []) (
 prP (bnI .mul (.int .i64 2) a0) fun t14_8 =>
 K [t14_8] []))
theorem impl_Zig.cl2 {w0 : World} {a0 : Value} {K : J2} (h : impl_Zig.txt ⟨Try.prog, w0⟩ a0 K) : Eng.cl2 ⟨Try.prog, w0⟩ 149 impl_Zig.sg [a0] [] K :=
  cl2_of_run (C := ⟨Try.prog, w0⟩) (f := 149) (fn := Try.f149) [(147, impl_in.sg)] [] [] Try.func149 (by kernel_rfl) (by kernel_rfl) (by kernel_rfl) h
/-- impl.Var -/
def impl_Var.sg : Sg := ⟨[(0, [.v])], [(0, [.v])], []⟩
def impl_Var.txt (C : Ctx) (a0 : Value) (K : J2) : Prop :=
 cl2 C 147 impl_in.sg [a0, (.int .i64 0), (.int .i64 562949953421311)] [] fun v1 d2 =>
 prP (un .not (nx v1 0)) fun t6_4 =>
 cndP t6_4 (
 K [(.string { data := #[] })] []) (
 loopP (fun r7 x5 k6 =>
 prP (bnI .gtr (nx x5 0) (.int .i64 127)) fun t8_17 =>
 cndP t8_17 (
 prP (bnI .rem (nx x5 0) (.int .i64 128)) fun t11_18 =>
 prP (bnI .add t11_18 (.int .i64 128)) fun t12_19 =>
 prP (cvI .u8 t12_19) fun t13_20 =>
 apW [T.c t13_20] true (cnt 1 (nxc k6 0)) (cnt 1 [T.c t13_20]) 1 (
 prP (bnI .quo (nx x5 0) (.int .i64 128)) fun t17_21 =>
 r7 [t17_21] [((nxc k6 0) ++ [T.c t13_20])])) (
 prP (cvI .u8 (nx x5 0)) fun t20_22 =>
 apW [T.c t20_22] true (cnt 1 (nxc k6 0)) (cnt 1 [T.c t20_22]) 1 (
 prP (b2T ((nxc k6 0) ++ [T.c t20_22])) fun t23_23 =>
 K [t23_23] []))) [a0] [[]])
theorem impl_Var.cl2 {w0 : World} {a0 : Value} {K : J2} (h : impl_Var.txt ⟨Try.prog, w0⟩ a0 K) : Eng.cl2 ⟨Try.prog, w0⟩ 84 impl_Var.sg [a0] [] K :=
  cl2_of_run (C := ⟨Try.prog, w0⟩) (f := 84) (fn := Try.f84) [(147, impl_in.sg)] [] [(60, ⟨[.v, .t (.j 0) 1], [], [.ls]⟩)] Try.func84 (by kernel_rfl) (by kernel_rfl) (by kernel_rfl) h
/-- impl.ShowInt -/
def impl_ShowInt.sg : Sg := ⟨[(0, [.v])], [(0, [.v])], []⟩
def impl_ShowInt.txt (C : Ctx) (a0 : Value) (K : J2) : Prop :=
 cl2 C 149 impl_Zig.sg [a0] [] fun v1 d2 =>
 cl2 C 84 impl_Var.sg [(nx v1 0)] [] fun v4 d5 =>
 K [(nx v4 0)] []
theorem impl_ShowInt.cl2 {w0 : World} {a0 : Value} {K : J2} (h : impl_ShowInt.txt ⟨Try.prog, w0⟩ a0 K) : Eng.cl2 ⟨Try.prog, w0⟩ 82 impl_ShowInt.sg [a0] [] K :=
  cl2_of_run (C := ⟨Try.prog, w0⟩) (f := 82) (fn := Try.f82) [(149, impl_Zig.sg), (84, impl_Var.sg)] [] [] Try.func82 (by kernel_rfl) (by kernel_rfl) (by kernel_rfl) h
/-- impl.ShowText -/
def impl_ShowText.sg : Sg := ⟨[(0, [.v])], [(0, [.v])], []⟩
def impl_ShowText.txt (C : Ctx) (a0 : Value) (K : J2) : Prop :=
 prP (lnS a0) fun t4_1 =>
 prP (bnI .gtr t4_1 (.int .i64 8)) fun t5_2 =>
 cndP t5_2 (
 K [(.string { data := #[] })] []) (
 prP (lnS a0) fun t7_3 =>
 cl2 C 84 impl_Var.sg [t7_3] [] fun v4 d5 =>
 prP (bnS .add (nx v4 0) a0) fun t10_7 =>
 K [t10_7] [])
theorem impl_ShowText.cl2 {w0 : World} {a0 : Value} {K : J2} (h : impl_ShowText.txt ⟨Try.prog, w0⟩ a0 K) : Eng.cl2 ⟨Try.prog, w0⟩ 85 impl_ShowText.sg [a0] [] K :=
  cl2_of_run (C := ⟨Try.prog, w0⟩) (f := 85) (fn := Try.f85) [(84, impl_Var.sg)] [] [] Try.func85 (by kernel_rfl) (by kernel_rfl) (by kernel_rfl) h
/-- impl.ShowEvent -/
def impl_ShowEvent.sg : Sg := ⟨[(1, [.v, .t 1 0]), (1, [.v, .v, .v, .v, .v]), (1, [.v, .v, .t 1 0])], [(0, [.v]), (1, [.v, .t 1])], []⟩
def impl_ShowEvent.txt (C : Ctx) (a0 a1 a2 a3 a4 a5 a6 a7 : Value) (c0 c1 : List T) (K : J2) : Prop :=
 cl2 C 79 impl_copyPen.sg [a0] [c0] fun v1 d2 =>
 cl2 C 48 impl_Speakable.sg [a1, a2, a3, a4, a5] [] fun v3 d4 =>
 prP (un .not (nx v3 0)) fun t18_6 =>
 gE t18_6 (
 gP t18_6 false ((fun K => cl2 C 80 impl_answerable.sg [a6, a7] [c1] fun v7 d8 => K (nx v7 0))) fun t21_9 =>
 gP t18_6 false (prP (un .not t21_9)) fun t22_10 =>
 prP (pk t18_6 (.bool true) t22_10) fun t23_11 =>
 gE t23_11 (
 gP t23_11 false ((fun K => cl2 C 81 impl_penOk.sg [a0] [c0] fun v12 d13 => K (nx v12 0))) fun t26_14 =>
 gP t23_11 false (prP (un .not t26_14)) fun t27_15 =>
 prP (pk t23_11 (.bool true) t27_15) fun t28_16 =>
 cndP t28_16 (
 K [(.string { data := #[] }), (nx v1 0)] [(nxc d2 0)]) (
 cl2 C 82 impl_ShowInt.sg [a1] [] fun v17 d18 =>
 prP (bnI .sub a2 a0) fun t37_20 =>
 cl2 C 82 impl_ShowInt.sg [t37_20] [] fun v21 d22 =>
 prP (bnS .add (nx v17 0) (nx v21 0)) fun t39_24 =>
 cl2 C 82 impl_ShowInt.sg [a3] [] fun v25 d26 =>
 prP (bnS .add t39_24 (nx v25 0)) fun t43_28 =>
 prP (bnI .sub a4 a2) fun t48_29 =>
 cl2 C 82 impl_ShowInt.sg [t48_29] [] fun v30 d31 =>
 prP (bnS .add t43_28 (nx v30 0)) fun t50_33 =>
 joinP (fun x35 k36 =>
 cl2 C 84 impl_Var.sg [(nx x35 6)] [] fun v55 d56 =>
 prP (bnI .sub (nx x35 7) (nx x35 2)) fun t88_58 =>
 cl2 C 82 impl_ShowInt.sg [t88_58] [] fun v59 d60 =>
 prP (bnS .add (nx v55 0) (nx v59 0)) fun t90_62 =>
 cl2 C 84 impl_Var.sg [(iv (cnt 1 c1))] [] fun v63 d64 =>
 prP (bnS .add t90_62 (nx v63 0)) fun t95_66 =>
 prP (bnS .add (nx x35 0) t95_66) fun t96_67 =>
 loopP (fun r70 x68 k69 =>
 prP (bnI .lss (nx x68 3) (nx x68 2)) fun t103_72 =>
 cndP t103_72 (
 ixW (cnt 1 c1) (nx x68 3) fun t104_73 =>
 ldc c1 [] ((natOf t104_73) * 1) fun t105_74 =>
 prP (bnI .sub t105_74 (nx x68 1)) fun t109_75 =>
 cl2 C 82 impl_ShowInt.sg [t109_75] [] fun v76 d77 =>
 prP (bnS .add (nx x68 0) (nx v76 0)) fun t111_79 =>
 prP (bnI .add (nx x68 3) (.int .i64 1)) fun t113_80 =>
 r70 [t111_79, t105_74, (nx x68 2), t113_80, (nx x68 4), (nx x68 5)] [(nxc k69 0)]) (
 K [(nx x68 0), (nx x68 5)] [(nxc k69 0)])) [t96_67, (nx x35 2), (iv (cnt 1 c1)), (.int .i64 0), (nx x35 8), (nx x35 9)] [(nxc k36 0)]) fun j37 =>
 cl2 C 83 impl_textAt.sg [a5] [c0] fun v38 d39 =>
 prP (bnI .geq (nx v38 0) (.int .i64 0)) fun t60_41 =>
 cndP t60_41 (
 prP (bnI .add (nx v38 0) (.int .i64 1)) fun t63_42 =>
 cl2 C 84 impl_Var.sg [t63_42] [] fun v43 d44 =>
 prP (bnS .add t50_33 (nx v43 0)) fun t65_46 =>
 j37 [t65_46, a1, a2, a3, a4, a5, a6, a7, (.int .i64 0), a2] [(nxc d2 0)]) (
 cl2 C 84 impl_Var.sg [(.int .i64 0)] [] fun v47 d48 =>
 cl2 C 85 impl_ShowText.sg [a5] [] fun v50 d51 =>
 prP (bnS .add (nx v47 0) (nx v50 0)) fun t71_53 =>
 prP (bnS .add t50_33 t71_53) fun t72_54 =>
 apW [T.c a5] true (cnt 1 (nxc d2 0)) (cnt 1 [T.c a5]) 16 (
 j37 [t72_54, a1, a2, a3, a4, a5, a6, a7, (.int .i64 0), a2] [((nxc d2 0) ++ [T.c a5])])))))
theorem impl_ShowEvent.cl2 {w0 : World} {a0 a1 a2 a3 a4 a5 a6 a7 : Value} {c0 c1 : List T} {K : J2} (h : impl_ShowEvent.txt ⟨Try.prog, w0⟩ a0 a1 a2 a3 a4 a5 a6 a7 c0 c1 K) : Eng.cl2 ⟨Try.prog, w0⟩ 19 impl_ShowEvent.sg [a0, a1, a2, a3, a4, a5, a6, a7] [c0, c1] K :=
  cl2_of_run (C := ⟨Try.prog, w0⟩) (f := 19) (fn := Try.f19) [(79, impl_copyPen.sg), (48, impl_Speakable.sg), (80, impl_answerable.sg), (81, impl_penOk.sg), (82, impl_ShowInt.sg), (83, impl_textAt.sg), (84, impl_Var.sg), (85, impl_ShowText.sg)] [(3, [0, 0, 3]), (4, [0, 1, 3, 0, 8, 0, 32, 120, 255, 511, 0, 1024, 3583, 8191, 0, 16384, 0, 65536, 245760, 515583, 1048575, 2097151]), (9, [0, 0, 0, 4, 14, 30, 63, 127]), (11, [0, 0, 2, 6, 0, 16, 0, 64, 240, 510, 1022, 0, 2048, 6144, 15358, 32766, 65535, 131071]), (19, [0, 0, 1, 7])] [(63, ⟨[.p (.j 0) 0, .p (.j 1) 0, .p (.j 2) 0, .p (.j 3) 0, .v], [], [.bx [.v, .v, .v, .v, .v], .bx [.v, .v, .t (.f 1) 1], .bx [.v, .z], .bx [.v, .t (.j 4) 1], .ls]⟩), (4090, ⟨[.p (.j 0) 0, .p (.j 1) 0, .v, .v, .t (.f 1) 1, .v, .v], [], [.bx [.v, .z], .bx [.v, .t (.j 2) 1], .ls]⟩)] Try.func19 (by kernel_rfl) (by kernel_rfl) (by kernel_rfl) h
/-- laws.eqStringS -/
def laws_eqStringS.sg : Sg := ⟨[(0, [.t 1 0]), (0, [.t 1 0])], [(0, [.v])], []⟩
def laws_eqStringS.txt (C : Ctx) (c0 c1 : List T) (K : J2) : Prop :=
 prP (bnI .neq (iv (cnt 1 c0)) (iv (cnt 1 c1))) fun t10_1 =>
 cndP t10_1 (
 K [(.bool false)] []) (
 loopP (fun r4 x2 k3 =>
 prP (bnI .lss (nx x2 0) (iv (cnt 1 c0))) fun t14_6 =>
 cndP t14_6 (
 ixW (cnt 1 c0) (nx x2 0) fun t19_7 =>
 ldc c0 [] ((natOf t19_7) * 1) fun t20_8 =>
 ixW (cnt 1 c1) (nx x2 0) fun t23_9 =>
 ldc c1 [] ((natOf t23_9) * 1) fun t24_10 =>
 prP (bnS .neq t20_8 t24_10) fun t25_11 =>
 cndP t25_11 (
 K [(.bool false)] []) (
 prP (bnI .add (nx x2 0) (.int .i64 1)) fun t16_12 =>
 r4 [t16_12] [])) (
 K [(.bool true)] [])) [(.int .i64 0)] [])
theorem laws_eqStringS.cl2 {w0 : World} {c0 c1 : List T} {K : J2} (h : laws_eqStringS.txt ⟨Try.prog, w0⟩ c0 c1 K) : Eng.cl2 ⟨Try.prog, w0⟩ 86 laws_eqStringS.sg [] [c0, c1] K :=
  cl2_of_run (C := ⟨Try.prog, w0⟩) (f := 86) (fn := Try.f86) [] [(6, [0, 0, 3, 7, 0, 0, 48, 112, 255])] [(58, ⟨[.t (.f 0) 1, .t (.f 1) 1, .v], [], []⟩)] Try.func86 (by kernel_rfl) (by kernel_rfl) (by kernel_rfl) h
/-- laws.eqPen -/
def laws_eqPen.sg : Sg := ⟨[(1, [.v, .t 1 0]), (1, [.v, .t 1 0])], [(0, [.v])], []⟩
def laws_eqPen.txt (C : Ctx) (a0 a1 : Value) (c0 c1 : List T) (K : J2) : Prop :=
 prP (bnI .neq a0 a1) fun t9_1 =>
 cndP t9_1 (
 K [(.bool false)] []) (
 cl2 C 86 laws_eqStringS.sg [] [c0, c1] fun v2 d3 =>
 prP (un .not (nx v2 0)) fun t15_5 =>
 cndP t15_5 (
 K [(.bool false)] []) (
 K [(.bool true)] []))
theorem laws_eqPen.cl2 {w0 : World} {a0 a1 : Value} {c0 c1 : List T} {K : J2} (h : laws_eqPen.txt ⟨Try.prog, w0⟩ a0 a1 c0 c1 K) : Eng.cl2 ⟨Try.prog, w0⟩ 20 laws_eqPen.sg [a0, a1] [c0, c1] K :=
  cl2_of_run (C := ⟨Try.prog, w0⟩) (f := 20) (fn := Try.f20) [(86, laws_eqStringS.sg)] [] [] Try.func20 (by kernel_rfl) (by kernel_rfl) (by kernel_rfl) h
/-- laws.eqIntS -/
def laws_eqIntS.sg : Sg := ⟨[(0, [.t 1 0]), (0, [.t 1 0])], [(0, [.v])], []⟩
def laws_eqIntS.txt (C : Ctx) (c0 c1 : List T) (K : J2) : Prop :=
 prP (bnI .neq (iv (cnt 1 c0)) (iv (cnt 1 c1))) fun t10_1 =>
 cndP t10_1 (
 K [(.bool false)] []) (
 loopP (fun r4 x2 k3 =>
 prP (bnI .lss (nx x2 0) (iv (cnt 1 c0))) fun t14_6 =>
 cndP t14_6 (
 ixW (cnt 1 c0) (nx x2 0) fun t19_7 =>
 ldc c0 [] ((natOf t19_7) * 1) fun t20_8 =>
 ixW (cnt 1 c1) (nx x2 0) fun t23_9 =>
 ldc c1 [] ((natOf t23_9) * 1) fun t24_10 =>
 prP (bnI .neq t20_8 t24_10) fun t25_11 =>
 cndP t25_11 (
 K [(.bool false)] []) (
 prP (bnI .add (nx x2 0) (.int .i64 1)) fun t16_12 =>
 r4 [t16_12] [])) (
 K [(.bool true)] [])) [(.int .i64 0)] [])
theorem laws_eqIntS.cl2 {w0 : World} {c0 c1 : List T} {K : J2} (h : laws_eqIntS.txt ⟨Try.prog, w0⟩ c0 c1 K) : Eng.cl2 ⟨Try.prog, w0⟩ 87 laws_eqIntS.sg [] [c0, c1] K :=
  cl2_of_run (C := ⟨Try.prog, w0⟩) (f := 87) (fn := Try.f87) [] [(6, [0, 0, 3, 7, 0, 0, 48, 112, 255])] [(58, ⟨[.t (.f 0) 1, .t (.f 1) 1, .v], [], []⟩)] Try.func87 (by kernel_rfl) (by kernel_rfl) (by kernel_rfl) h
/-- laws.eqAnswer -/
def laws_eqAnswer.sg : Sg := ⟨[(1, [.v, .v, .t 1 0]), (1, [.v, .v, .t 1 0])], [(0, [.v])], []⟩
def laws_eqAnswer.txt (C : Ctx) (a0 a1 a2 a3 : Value) (c0 c1 : List T) (K : J2) : Prop :=
 prP (bnI .neq a0 a2) fun t9_1 =>
 cndP t9_1 (
 K [(.bool false)] []) (
 prP (bnI .neq a1 a3) fun t14_2 =>
 cndP t14_2 (
 K [(.bool false)] []) (
 cl2 C 87 laws_eqIntS.sg [] [c0, c1] fun v3 d4 =>
 prP (un .not (nx v3 0)) fun t20_6 =>
 cndP t20_6 (
 K [(.bool false)] []) (
 K [(.bool true)] [])))
theorem laws_eqAnswer.cl2 {w0 : World} {a0 a1 a2 a3 : Value} {c0 c1 : List T} {K : J2} (h : laws_eqAnswer.txt ⟨Try.prog, w0⟩ a0 a1 a2 a3 c0 c1 K) : Eng.cl2 ⟨Try.prog, w0⟩ 21 laws_eqAnswer.sg [a0, a1, a2, a3] [c0, c1] K :=
  cl2_of_run (C := ⟨Try.prog, w0⟩) (f := 21) (fn := Try.f21) [(87, laws_eqIntS.sg)] [] [] Try.func21 (by kernel_rfl) (by kernel_rfl) (by kernel_rfl) h
/-- laws.markText -/
def laws_markText.sg : Sg := ⟨[(0, [.v])], [(0, [.v])], []⟩
def laws_markText.txt (C : Ctx) (a0 : Value) (K : J2) : Prop :=
 prP (bnI .leq a0 (.int .i64 0)) fun t5_1 =>
 cndP t5_1 (
 K [(.string { data := #[109, 48] })] []) (
 loopP (fun r4 x2 k3 =>
 prP (bnI .gtr (nx x2 0) (.int .i64 0)) fun t7_6 =>
 cndP t7_6 (
 prP (bnI .rem (nx x2 0) (.int .i64 10)) fun t9_7 =>
 prP (bnI .add (.int .i64 48) t9_7) fun t10_8 =>
 prP (cvI .u8 t10_8) fun t11_9 =>
 prP (b2T [T.c t11_9]) fun t13_10 =>
 prP (bnS .add t13_10 (nx x2 1)) fun t15_11 =>
 prP (bnI .quo (nx x2 0) (.int .i64 10)) fun t17_12 =>
 r4 [t17_12, t15_11] []) (
 prP (bnS .add (.string { data := #[109] }) (nx x2 1)) fun t19_13 =>
 K [t19_13] [])) [a0, (.string { data := #[] })] [])
theorem laws_markText.cl2 {w0 : World} {a0 : Value} {K : J2} (h : laws_markText.txt ⟨Try.prog, w0⟩ a0 K) : Eng.cl2 ⟨Try.prog, w0⟩ 102 laws_markText.sg [a0] [] K :=
  cl2_of_run (C := ⟨Try.prog, w0⟩) (f := 102) (fn := Try.f102) [] [] [(60, ⟨[.v, .v], [], []⟩)] Try.func102 (by kernel_rfl) (by kernel_rfl) (by kernel_rfl) h
/-- laws.markStringS -/
def laws_markStringS.sg : Sg := ⟨[(0, [.t 1 1]), (0, [.v])], [(0, [.v])], []⟩
def laws_markStringS.txt (C : Ctx) (a0 : Value) (c0 : List T) (K : J2) : Prop :=
 loopP (fun r3 x1 k2 =>
 prP (bnI .lss (nx x1 1) (iv (cnt 1 (nxc k2 0)))) fun t9_5 =>
 cndP t9_5 (
 cl2 C 102 laws_markText.sg [(nx x1 0)] [] fun v6 d7 =>
 ixW (cnt 1 (nxc k2 0)) (nx x1 1) fun t16_9 =>
 stc (nxc k2 0) [] ((natOf t16_9) * 1) (nx v6 0) fun k10 =>
 prP (bnI .add (nx x1 0) (.int .i64 1)) fun t18_11 =>
 prP (bnI .add (nx x1 1) (.int .i64 1)) fun t11_12 =>
 r3 [t18_11, t11_12] [k10]) (
 K [(nx x1 0)] [(nxc k2 0)])) [a0, (.int .i64 0)] [c0]
theorem laws_markStringS.cl2 {w0 : World} {a0 : Value} {c0 : List T} {K : J2} (h : laws_markStringS.txt ⟨Try.prog, w0⟩ a0 c0 K) : Eng.cl2 ⟨Try.prog, w0⟩ 88 laws_markStringS.sg [a0] [c0] K :=
  cl2_of_run (C := ⟨Try.prog, w0⟩) (f := 88) (fn := Try.f88) [(102, laws_markText.sg)] [] [(26, ⟨[.t (.j 0) 1, .v, .v], [.t (.j 0) 1], [.ls]⟩)] Try.func88 (by kernel_rfl) (by kernel_rfl) (by kernel_rfl) h
/-- laws.markPen -/
def laws_markPen.sg : Sg := ⟨[(1, [.v, .t 1 1]), (0, [.v])], [(0, [.v])], []⟩
def laws_markPen.txt (C : Ctx) (a0 a1 : Value) (c0 : List T) (K : J2) : Prop :=
 cl2 C 88 laws_markStringS.sg [a1] [c0] fun v1 d2 =>
 K [(nx v1 0)] [(nxc d2 0)]
theorem laws_markPen.cl2 {w0 : World} {a0 a1 : Value} {c0 : List T} {K : J2} (h : laws_markPen.txt ⟨Try.prog, w0⟩ a0 a1 c0 K) : Eng.cl2 ⟨Try.prog, w0⟩ 22 laws_markPen.sg [a0, a1] [c0] K :=
  cl2_of_run (C := ⟨Try.prog, w0⟩) (f := 22) (fn := Try.f22) [(88, laws_markStringS.sg)] [] [] Try.func22 (by kernel_rfl) (by kernel_rfl) (by kernel_rfl) h
/-- laws.markIntS -/
def laws_markIntS.sg : Sg := ⟨[(0, [.t 1 1]), (0, [.v])], [(0, [.v])], []⟩
def laws_markIntS.txt (C : Ctx) (a0 : Value) (c0 : List T) (K : J2) : Prop :=
 loopP (fun r3 x1 k2 =>
 prP (bnI .lss (nx x1 1) (iv (cnt 1 (nxc k2 0)))) fun t9_5 =>
 cndP t9_5 (
 ixW (cnt 1 (nxc k2 0)) (nx x1 1) fun t15_6 =>
 stc (nxc k2 0) [] ((natOf t15_6) * 1) (nx x1 0) fun k7 =>
 prP (bnI .add (nx x1 0) (.int .i64 1)) fun t17_8 =>
 prP (bnI .add (nx x1 1) (.int .i64 1)) fun t11_9 =>
 r3 [t17_8, t11_9] [k7]) (
 K [(nx x1 0)] [(nxc k2 0)])) [a0, (.int .i64 0)] [c0]
theorem laws_markIntS.cl2 {w0 : World} {a0 : Value} {c0 : List T} {K : J2} (h : laws_markIntS.txt ⟨Try.prog, w0⟩ a0 c0 K) : Eng.cl2 ⟨Try.prog, w0⟩ 89 laws_markIntS.sg [a0] [c0] K :=
  cl2_of_run (C := ⟨Try.prog, w0⟩) (f := 89) (fn := Try.f89) [] [] [(26, ⟨[.t (.j 0) 1, .v, .v], [.t (.j 0) 1], [.ls]⟩)] Try.func89 (by kernel_rfl) (by kernel_rfl) (by kernel_rfl) h
/-- laws.markAnswer -/
def laws_markAnswer.sg : Sg := ⟨[(1, [.v, .v, .t 1 1]), (0, [.v])], [(0, [.v])], []⟩
def laws_markAnswer.txt (C : Ctx) (a0 a1 a2 : Value) (c0 : List T) (K : J2) : Prop :=
 cl2 C 89 laws_markIntS.sg [a2] [c0] fun v1 d2 =>
 K [(nx v1 0)] [(nxc d2 0)]
theorem laws_markAnswer.cl2 {w0 : World} {a0 a1 a2 : Value} {c0 : List T} {K : J2} (h : laws_markAnswer.txt ⟨Try.prog, w0⟩ a0 a1 a2 c0 K) : Eng.cl2 ⟨Try.prog, w0⟩ 23 laws_markAnswer.sg [a0, a1, a2] [c0] K :=
  cl2_of_run (C := ⟨Try.prog, w0⟩) (f := 23) (fn := Try.f23) [(89, laws_markIntS.sg)] [] [] Try.func23 (by kernel_rfl) (by kernel_rfl) (by kernel_rfl) h
/-- laws.heldStringS -/
def laws_heldStringS.sg : Sg := ⟨[(0, [.t 1 0]), (0, [.v])], [(0, [.v])], []⟩
def laws_heldStringS.txt (C : Ctx) (a0 : Value) (c0 : List T) (K : J2) : Prop :=
 loopP (fun r3 x1 k2 =>
 prP (bnI .lss (nx x1 1) (iv (cnt 1 c0))) fun t9_5 =>
 cndP t9_5 (
 ixW (cnt 1 c0) (nx x1 1) fun t14_6 =>
 ldc c0 [] ((natOf t14_6) * 1) fun t15_7 =>
 cl2 C 102 laws_markText.sg [(nx x1 0)] [] fun v8 d9 =>
 prP (bnS .neq t15_7 (nx v8 0)) fun t18_11 =>
 cndP t18_11 (
 K [(.int .i64 (-1))] []) (
 prP (bnI .add (nx x1 0) (.int .i64 1)) fun t20_12 =>
 prP (bnI .add (nx x1 1) (.int .i64 1)) fun t11_13 =>
 r3 [t20_12, t11_13] [])) (
 K [(nx x1 0)] [])) [a0, (.int .i64 0)] []
theorem laws_heldStringS.cl2 {w0 : World} {a0 : Value} {c0 : List T} {K : J2} (h : laws_heldStringS.txt ⟨Try.prog, w0⟩ a0 c0 K) : Eng.cl2 ⟨Try.prog, w0⟩ 90 laws_heldStringS.sg [a0] [c0] K :=
  cl2_of_run (C := ⟨Try.prog, w0⟩) (f := 90) (fn := Try.f90) [(102, laws_markText.sg)] [(4, [0, 0, 3, 7, 0, 16, 63])] [(26, ⟨[.t (.f 0) 1, .v, .v], [], []⟩)] Try.func90 (by kernel_rfl) (by kernel_rfl) (by kernel_rfl) h
/-- laws.heldPen -/
def laws_heldPen.sg : Sg := ⟨[(1, [.v, .t 1 0]), (0, [.v])], [(0, [.v])], []⟩
def laws_heldPen.txt (C : Ctx) (a0 a1 : Value) (c0 : List T) (K : J2) : Prop :=
 cl2 C 90 laws_heldStringS.sg [a1] [c0] fun v1 d2 =>
 prP (bnI .lss (nx v1 0) (.int .i64 0)) fun t10_4 =>
 cndP t10_4 (
 K [(.int .i64 (-1))] []) (
 K [(nx v1 0)] [])
theorem laws_heldPen.cl2 {w0 : World} {a0 a1 : Value} {c0 : List T} {K : J2} (h : laws_heldPen.txt ⟨Try.prog, w0⟩ a0 a1 c0 K) : Eng.cl2 ⟨Try.prog, w0⟩ 24 laws_heldPen.sg [a0, a1] [c0] K :=
  cl2_of_run (C := ⟨Try.prog, w0⟩) (f := 24) (fn := Try.f24) [(90, laws_heldStringS.sg)] [] [] Try.func24 (by kernel_rfl) (by kernel_rfl) (by kernel_rfl) h
/-- laws.FnExactShowEvent -/
def laws_FnExactShowEvent.sg : Sg := ⟨[(1, [.v, .t 1 0]), (1, [.v, .v, .v, .v, .v]), (1, [.v, .v, .t 1 0])], [(0, [.v])], []⟩
def laws_FnExactShowEvent.txt (C : Ctx) (a0 a1 a2 a3 a4 a5 a6 a7 : Value) (c0 c1 : List T) (K : J2) : Prop :=
 cl2 C 12 laws_szPen.sg [a0, (.int .i64 1048576)] [c0] fun v1 d2 =>
 prP (bnI .lss (nx v1 0) (.int .i64 0)) fun t23_4 =>
 cndP t23_4 (
 K [(.bool true)] []) (
 cl2 C 13 laws_szOp.sg [a1, a2, a3, a4, a5, (nx v1 0)] [] fun v5 d6 =>
 prP (bnI .lss (nx v5 0) (.int .i64 0)) fun t28_8 =>
 cndP t28_8 (
 K [(.bool true)] []) (
 cl2 C 14 laws_szAnswer.sg [a6, a7, (nx v5 0)] [c1] fun v9 d10 =>
 prP (bnI .lss (nx v9 0) (.int .i64 0)) fun t33_12 =>
 cndP t33_12 (
 K [(.bool true)] []) (
 cl2 C 16 laws_toPen.sg [a0] [c0] fun v13 d14 =>
 cl2 C 17 laws_toOp.sg [a1, a2, a3, a4, a5] [] fun v15 d16 =>
 cl2 C 18 laws_toAnswer.sg [a6, a7] [c1] fun v17 d18 =>
 cl2 C 15 spec_ShowEvent.sg [(nx v13 0), (nx v15 0), (nx v15 1), (nx v15 2), (nx v15 3), (nx v15 4), (nx v17 0), (nx v17 1)] [(nxc d14 0), (nxc d18 0)] fun v19 d20 =>
 cl2 C 16 laws_toPen.sg [a0] [c0] fun v21 d22 =>
 cl2 C 18 laws_toAnswer.sg [a6, a7] [c1] fun v23 d24 =>
 cl2 C 17 laws_toOp.sg [a1, a2, a3, a4, a5] [] fun v25 d26 =>
 cl2 C 19 impl_ShowEvent.sg [(nx v21 0), (nx v25 0), (nx v25 1), (nx v25 2), (nx v25 3), (nx v25 4), (nx v23 0), (nx v23 1)] [(nxc d22 0), (nxc d24 0)] fun v27 d28 =>
 prP (bnS .neq (nx v27 0) (nx v19 0)) fun t58_29 =>
 gE t58_29 (
 gE t58_29 (
 gP t58_29 false ((fun K => cl2 C 20 laws_eqPen.sg [(nx v27 1), (nx v19 1)] [(nxc d28 0), (nxc d20 0)] fun v30 d31 => K (nx v30 0))) fun t62_32 =>
 gP t58_29 false (prP (un .not t62_32)) fun t63_33 =>
 prP (pk t58_29 (.bool true) t63_33) fun t64_34 =>
 cndP t64_34 (
 K [(.bool false)] []) (
 cl2 C 16 laws_toPen.sg [a0] [c0] fun v35 d36 =>
 cl2 C 20 laws_eqPen.sg [(nx v21 0), (nx v35 0)] [(nxc d22 0), (nxc d36 0)] fun v37 d38 =>
 prP (un .not (nx v37 0)) fun t69_40 =>
 cndP t69_40 (
 K [(.bool false)] []) (
 cl2 C 18 laws_toAnswer.sg [a6, a7] [c1] fun v41 d42 =>
 cl2 C 21 laws_eqAnswer.sg [(nx v23 0), (nx v23 1), (nx v41 0), (nx v41 1)] [(nxc d24 0), (nxc d42 0)] fun v43 d44 =>
 prP (un .not (nx v43 0)) fun t74_46 =>
 cndP t74_46 (
 K [(.bool false)] []) (
 cl2 C 22 laws_markPen.sg [(nx v21 0), (.int .i64 1)] [(nxc d22 0)] fun v47 d48 =>
 cl2 C 23 laws_markAnswer.sg [(nx v23 0), (nx v23 1), (nx v47 0)] [(nxc d24 0)] fun v49 d50 =>
 prP (bnI .lss (nx v49 0) (.int .i64 0)) fun t82_51 =>
 gE t82_51 (
 gE t82_51 (
 gP t82_51 false (prP (bnS .neq (nx v27 0) (nx v19 0))) fun t86_52 =>
 prP (pk t82_51 (.bool true) t86_52) fun t87_53 =>
 gE t87_53 (
 gE t87_53 (
 gP t87_53 false ((fun K => cl2 C 20 laws_eqPen.sg [(nx v27 1), (nx v19 1)] [(nxc d28 0), (nxc d20 0)] fun v54 d55 => K (nx v54 0))) fun t91_56 =>
 gP t87_53 false (prP (un .not t91_56)) fun t92_57 =>
 prP (pk t87_53 (.bool true) t92_57) fun t93_58 =>
 cndP t93_58 (
 K [(.bool false)] []) (
 cl2 C 22 laws_markPen.sg [(nx v27 1), (.int .i64 1)] [(nxc d28 0)] fun v59 d60 =>
 cl2 C 24 laws_heldPen.sg [(nx v27 1), (.int .i64 1)] [(nxc d60 0)] fun v61 d62 =>
 prP (bnI .lss (nx v61 0) (.int .i64 0)) fun t101_64 =>
 cndP t101_64 (
 K [(.bool false)] []) (
 prP (bnI .neq (nx v61 0) (nx v59 0)) fun t104_65 =>
 cndP t104_65 (
 K [(.bool false)] []) (
 cl2 C 16 laws_toPen.sg [a0] [c0] fun v66 d67 =>
 cl2 C 17 laws_toOp.sg [a1, a2, a3, a4, a5] [] fun v68 d69 =>
 cl2 C 18 laws_toAnswer.sg [a6, a7] [c1] fun v70 d71 =>
 cl2 C 19 impl_ShowEvent.sg [(nx v66 0), (nx v68 0), (nx v68 1), (nx v68 2), (nx v68 3), (nx v68 4), (nx v70 0), (nx v70 1)] [(nxc d67 0), (nxc d71 0)] fun v72 d73 =>
 prP (bnS .neq (nx v72 0) (nx v19 0)) fun t117_74 =>
 gE t117_74 (
 gE t117_74 (
 gP t117_74 false ((fun K => cl2 C 20 laws_eqPen.sg [(nx v72 1), (nx v19 1)] [(nxc d73 0), (nxc d20 0)] fun v75 d76 => K (nx v75 0))) fun t121_77 =>
 gP t117_74 false (prP (un .not t121_77)) fun t122_78 =>
 prP (pk t117_74 (.bool true) t122_78) fun t123_79 =>
 cndP t123_79 (
 K [(.bool false)] []) (
 cl2 C 24 laws_heldPen.sg [(nx v27 1), (.int .i64 1)] [(nxc d60 0)] fun v80 d81 =>
 prP (bnI .lss (nx v80 0) (.int .i64 0)) fun t128_83 =>
 cndP t128_83 (
 K [(.bool false)] []) (
 prP (bnI .neq (nx v80 0) (nx v59 0)) fun t131_84 =>
 cndP t131_84 (
 K [(.bool false)] []) (
 K [(.bool true)] []))))))))))))))))))))
theorem laws_FnExactShowEvent.cl2 {w0 : World} {a0 a1 a2 a3 a4 a5 a6 a7 : Value} {c0 c1 : List T} {K : J2} (h : laws_FnExactShowEvent.txt ⟨Try.prog, w0⟩ a0 a1 a2 a3 a4 a5 a6 a7 c0 c1 K) : Eng.cl2 ⟨Try.prog, w0⟩ 3 laws_FnExactShowEvent.sg [a0, a1, a2, a3, a4, a5, a6, a7] [c0, c1] K :=
  cl2_of_run (C := ⟨Try.prog, w0⟩) (f := 3) (fn := Try.f3) [(12, laws_szPen.sg), (13, laws_szOp.sg), (14, laws_szAnswer.sg), (16, laws_toPen.sg), (17, laws_toOp.sg), (18, laws_toAnswer.sg), (15, spec_ShowEvent.sg), (19, impl_ShowEvent.sg), (20, laws_eqPen.sg), (21, laws_eqAnswer.sg), (22, laws_markPen.sg), (23, laws_markAnswer.sg), (24, laws_heldPen.sg)] [(11, [0, 1, 0, 7, 0, 31, 63, 127, 255, 255, 0, 1535, 4095]), (14, [0, 0, 2, 0, 15, 31, 63, 63, 0, 383, 1023]), (17, [0, 0, 2, 7, 15]), (19, [0, 0, 2, 7, 15]), (34, [0, 1, 0, 7, 0, 31, 63, 127, 255, 255, 0, 1535, 4095])] [] Try.func3 (by kernel_rfl) (by kernel_rfl) (by kernel_rfl) h
end Go.Proofs.Ytmikdglafmfnfaa.P
