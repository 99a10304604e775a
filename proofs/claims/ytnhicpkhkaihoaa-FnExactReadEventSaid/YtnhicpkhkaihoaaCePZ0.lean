/- The functions of the code as the pure engine's texts, printed by my program gen2.py: each with its call. -/
import Derived.Test.YtnhicpkhkaihoaaChecked
import Derived.Test.YtnhicpkhkaihoaaCeEngM5
import Derived.KernelRfl
namespace Go.Proofs.Ytnhicpkhkaihoaa.P
open Go Go.Proofs.Ytnhicpkhkaihoaa Go.Proofs.Ytnhicpkhkaihoaa.Eng
set_option linter.unusedVariables false
set_option maxRecDepth 100000
/-- laws.szStringS -/
def laws_szStringS.sg : Sg := ⟨[(0, [.t 1 0]), (0, [.v])], [(0, [.v])], []⟩
def laws_szStringS.txt (C : Ctx) (a0 : Value) (c0 : List T) (K : J2) : Prop :=
 prP (bnI .sub a0 (iv (cnt 1 c0))) fun t9_1 =>
 prP (bnI .lss t9_1 (.int .i64 0)) fun t11_2 =>
 cndP t11_2 (
 K [(.int .i64 (-1))] []) (
 loopP (fun r5 x3 k4 =>
 prP (bnI .lss (nx x3 1) (iv (cnt 1 c0))) fun t15_7 =>
 cndP t15_7 (
 ixW (cnt 1 c0) (nx x3 1) fun t21_8 =>
 ldc c0 [] ((natOf t21_8) * 1) fun t22_9 =>
 prP (lnS t22_9) fun t23_10 =>
 prP (bnI .sub (nx x3 0) t23_10) fun t24_11 =>
 prP (bnI .lss t24_11 (.int .i64 0)) fun t26_12 =>
 cndP t26_12 (
 K [(.int .i64 (-1))] []) (
 prP (bnI .add (nx x3 1) (.int .i64 1)) fun t17_13 =>
 r5 [t24_11, t17_13] [])) (
 K [(nx x3 0)] [])) [t9_1, (.int .i64 0)] [])
theorem laws_szStringS.cl2 {w0 : World} {a0 : Value} {c0 : List T} {K : J2} (h : laws_szStringS.txt ⟨Try.prog, w0⟩ a0 c0 K) : Eng.cl2 ⟨Try.prog, w0⟩ 78 laws_szStringS.sg [a0] [c0] K :=
  cl2_of_run (C := ⟨Try.prog, w0⟩) (f := 78) (fn := Try.f78) [] [] [(122, ⟨[.t (.f 0) 1, .v, .v], [], []⟩)] Try.func78 (by kernel_rfl) (by kernel_rfl) (by kernel_rfl) h
/-- laws.toStringS -/
def laws_toStringS.sg : Sg := ⟨[(0, [.t 1 0])], [(0, [.t 1])], []⟩
def laws_toStringS.txt (C : Ctx) (c0 : List T) (K : J2) : Prop :=
 mkW 16 (iv (cnt 1 c0)) (iv (cnt 1 c0)) fun n1 =>
 loopP (fun r4 x2 k3 =>
 prP (bnI .lss (nx x2 0) (iv (cnt 1 c0))) fun t11_6 =>
 cndP t11_6 (
 ixW (cnt 1 c0) (nx x2 0) fun t18_7 =>
 ldc c0 [] ((natOf t18_7) * 1) fun t19_8 =>
 ixW (cnt 1 (nxc k3 0)) (nx x2 0) fun t20_9 =>
 stc (nxc k3 0) [] ((natOf t20_9) * 1) t19_8 fun k10 =>
 prP (bnI .add (nx x2 0) (.int .i64 1)) fun t13_11 =>
 r4 [t13_11] [k10]) (
 K [] [(nxc k3 0)])) [(.int .i64 0)] [(repT (natOf n1) [T.c (.string { data := #[] })])]
theorem laws_toStringS.cl2 {w0 : World} {c0 : List T} {K : J2} (h : laws_toStringS.txt ⟨Try.prog, w0⟩ c0 K) : Eng.cl2 ⟨Try.prog, w0⟩ 83 laws_toStringS.sg [] [c0] K :=
  cl2_of_run (C := ⟨Try.prog, w0⟩) (f := 83) (fn := Try.f83) [] [] [(58, ⟨[.t (.f 0) 1, .t (.j 0) 1, .v], [], [.ls]⟩)] Try.func83 (by kernel_rfl) (by kernel_rfl) (by kernel_rfl) h
/-- spec.l1In -/
def spec_l1In.sg : Sg := ⟨[(0, [.v]), (0, [.v]), (0, [.v])], [(0, [.v])], []⟩
def spec_l1In.txt (C : Ctx) (a0 a1 a2 : Value) (K : J2) : Prop :=
 prP (bnI .geq a0 a1) fun t9_1 =>
 gE t9_1 (
 gE t9_1 (
 gP t9_1 true (prP (bnI .leq a0 a2)) fun t13_2 =>
 prP (pk t9_1 t13_2 (.bool false)) fun t14_3 =>
 K [t14_3] []))
theorem spec_l1In.cl2 {w0 : World} {a0 a1 a2 : Value} {K : J2} (h : spec_l1In.txt ⟨Try.prog, w0⟩ a0 a1 a2 K) : Eng.cl2 ⟨Try.prog, w0⟩ 154 spec_l1In.sg [a0, a1, a2] [] K :=
  cl2_of_run (C := ⟨Try.prog, w0⟩) (f := 154) (fn := Try.f154) [] [] [] Try.func154 (by kernel_rfl) (by kernel_rfl) (by kernel_rfl) h
/-- impl.in -/
def impl_in.sg : Sg := ⟨[(0, [.v]), (0, [.v]), (0, [.v])], [(0, [.v])], []⟩
def impl_in.txt (C : Ctx) (a0 a1 a2 : Value) (K : J2) : Prop :=
 prP (bnI .geq a0 a1) fun t9_1 =>
 gE t9_1 (
 gE t9_1 (
 gP t9_1 true (prP (bnI .leq a0 a2)) fun t13_2 =>
 prP (pk t9_1 t13_2 (.bool false)) fun t14_3 =>
 K [t14_3] []))
theorem impl_in.cl2 {w0 : World} {a0 a1 a2 : Value} {K : J2} (h : impl_in.txt ⟨Try.prog, w0⟩ a0 a1 a2 K) : Eng.cl2 ⟨Try.prog, w0⟩ 157 impl_in.sg [a0, a1, a2] [] K :=
  cl2_of_run (C := ⟨Try.prog, w0⟩) (f := 157) (fn := Try.f157) [] [] [] Try.func157 (by kernel_rfl) (by kernel_rfl) (by kernel_rfl) h
/-- laws.eqIntS -/
def laws_eqIntS.sg : Sg := ⟨[(0, [.t 1 0]), (0, [.t 1 0])], [(0, [.v])], []⟩
def laws_eqIntS.txt (C : Ctx) (c0 c1 : List T) (K : J2) : Prop :=
 prP (bnI .neq (iv (cnt 1 c0)) (iv (cnt 1 c1))) fun t10_1 =>
 cndP t10_1 (
 K [(.bool false)] []) (
 loopP (fun r4 x2 k3 =>
 prP (bnI .lss (nx x2 0) (iv (cnt 1 c0))) fun t14_6 =>
 cndP t14_6 (
 ixW (cnt 1 c0) (nx x2 0) fun t19_7 =>
 ldc c0 [] ((natOf t19_7) * 1) fun t20_8 =>
 ixW (cnt 1 c1) (nx x2 0) fun t23_9 =>
 ldc c1 [] ((natOf t23_9) * 1) fun t24_10 =>
 prP (bnI .neq t20_8 t24_10) fun t25_11 =>
 cndP t25_11 (
 K [(.bool false)] []) (
 prP (bnI .add (nx x2 0) (.int .i64 1)) fun t16_12 =>
 r4 [t16_12] [])) (
 K [(.bool true)] [])) [(.int .i64 0)] [])
theorem laws_eqIntS.cl2 {w0 : World} {c0 c1 : List T} {K : J2} (h : laws_eqIntS.txt ⟨Try.prog, w0⟩ c0 c1 K) : Eng.cl2 ⟨Try.prog, w0⟩ 17 laws_eqIntS.sg [] [c0, c1] K :=
  cl2_of_run (C := ⟨Try.prog, w0⟩) (f := 17) (fn := Try.f17) [] [(6, [0, 0, 3, 7, 0, 0, 48, 112, 255])] [(58, ⟨[.t (.f 0) 1, .t (.f 1) 1, .v], [], []⟩)] Try.func17 (by kernel_rfl) (by kernel_rfl) (by kernel_rfl) h
/-- laws.eqStringS -/
def laws_eqStringS.sg : Sg := ⟨[(0, [.t 1 0]), (0, [.t 1 0])], [(0, [.v])], []⟩
def laws_eqStringS.txt (C : Ctx) (c0 c1 : List T) (K : J2) : Prop :=
 prP (bnI .neq (iv (cnt 1 c0)) (iv (cnt 1 c1))) fun t10_1 =>
 cndP t10_1 (
 K [(.bool false)] []) (
 loopP (fun r4 x2 k3 =>
 prP (bnI .lss (nx x2 0) (iv (cnt 1 c0))) fun t14_6 =>
 cndP t14_6 (
 ixW (cnt 1 c0) (nx x2 0) fun t19_7 =>
 ldc c0 [] ((natOf t19_7) * 1) fun t20_8 =>
 ixW (cnt 1 c1) (nx x2 0) fun t23_9 =>
 ldc c1 [] ((natOf t23_9) * 1) fun t24_10 =>
 prP (bnS .neq t20_8 t24_10) fun t25_11 =>
 cndP t25_11 (
 K [(.bool false)] []) (
 prP (bnI .add (nx x2 0) (.int .i64 1)) fun t16_12 =>
 r4 [t16_12] [])) (
 K [(.bool true)] [])) [(.int .i64 0)] [])
theorem laws_eqStringS.cl2 {w0 : World} {c0 c1 : List T} {K : J2} (h : laws_eqStringS.txt ⟨Try.prog, w0⟩ c0 c1 K) : Eng.cl2 ⟨Try.prog, w0⟩ 87 laws_eqStringS.sg [] [c0, c1] K :=
  cl2_of_run (C := ⟨Try.prog, w0⟩) (f := 87) (fn := Try.f87) [] [(6, [0, 0, 3, 7, 0, 0, 48, 112, 255])] [(58, ⟨[.t (.f 0) 1, .t (.f 1) 1, .v], [], []⟩)] Try.func87 (by kernel_rfl) (by kernel_rfl) (by kernel_rfl) h
/-- laws.markIntS -/
def laws_markIntS.sg : Sg := ⟨[(0, [.t 1 1]), (0, [.v])], [(0, [.v])], []⟩
def laws_markIntS.txt (C : Ctx) (a0 : Value) (c0 : List T) (K : J2) : Prop :=
 loopP (fun r3 x1 k2 =>
 prP (bnI .lss (nx x1 1) (iv (cnt 1 (nxc k2 0)))) fun t9_5 =>
 cndP t9_5 (
 ixW (cnt 1 (nxc k2 0)) (nx x1 1) fun t15_6 =>
 stc (nxc k2 0) [] ((natOf t15_6) * 1) (nx x1 0) fun k7 =>
 prP (bnI .add (nx x1 0) (.int .i64 1)) fun t17_8 =>
 prP (bnI .add (nx x1 1) (.int .i64 1)) fun t11_9 =>
 r3 [t17_8, t11_9] [k7]) (
 K [(nx x1 0)] [(nxc k2 0)])) [a0, (.int .i64 0)] [c0]
theorem laws_markIntS.cl2 {w0 : World} {a0 : Value} {c0 : List T} {K : J2} (h : laws_markIntS.txt ⟨Try.prog, w0⟩ a0 c0 K) : Eng.cl2 ⟨Try.prog, w0⟩ 20 laws_markIntS.sg [a0] [c0] K :=
  cl2_of_run (C := ⟨Try.prog, w0⟩) (f := 20) (fn := Try.f20) [] [] [(26, ⟨[.t (.j 0) 1, .v, .v], [.t (.j 0) 1], [.ls]⟩)] Try.func20 (by kernel_rfl) (by kernel_rfl) (by kernel_rfl) h
/-- laws.markText -/
def laws_markText.sg : Sg := ⟨[(0, [.v])], [(0, [.v])], []⟩
def laws_markText.txt (C : Ctx) (a0 : Value) (K : J2) : Prop :=
 prP (bnI .leq a0 (.int .i64 0)) fun t5_1 =>
 cndP t5_1 (
 K [(.string { data := #[109, 48] })] []) (
 loopP (fun r4 x2 k3 =>
 prP (bnI .gtr (nx x2 0) (.int .i64 0)) fun t7_6 =>
 cndP t7_6 (
 prP (bnI .rem (nx x2 0) (.int .i64 10)) fun t9_7 =>
 prP (bnI .add (.int .i64 48) t9_7) fun t10_8 =>
 prP (cvI .u8 t10_8) fun t11_9 =>
 prP (b2T [T.c t11_9]) fun t13_10 =>
 prP (bnS .add t13_10 (nx x2 1)) fun t15_11 =>
 prP (bnI .quo (nx x2 0) (.int .i64 10)) fun t17_12 =>
 r4 [t17_12, t15_11] []) (
 prP (bnS .add (.string { data := #[109] }) (nx x2 1)) fun t19_13 =>
 K [t19_13] [])) [a0, (.string { data := #[] })] [])
theorem laws_markText.cl2 {w0 : World} {a0 : Value} {K : J2} (h : laws_markText.txt ⟨Try.prog, w0⟩ a0 K) : Eng.cl2 ⟨Try.prog, w0⟩ 107 laws_markText.sg [a0] [] K :=
  cl2_of_run (C := ⟨Try.prog, w0⟩) (f := 107) (fn := Try.f107) [] [] [(60, ⟨[.v, .v], [], []⟩)] Try.func107 (by kernel_rfl) (by kernel_rfl) (by kernel_rfl) h
/-- laws.markStringS -/
def laws_markStringS.sg : Sg := ⟨[(0, [.t 1 1]), (0, [.v])], [(0, [.v])], []⟩
def laws_markStringS.txt (C : Ctx) (a0 : Value) (c0 : List T) (K : J2) : Prop :=
 loopP (fun r3 x1 k2 =>
 prP (bnI .lss (nx x1 1) (iv (cnt 1 (nxc k2 0)))) fun t9_5 =>
 cndP t9_5 (
 cl2 C 107 laws_markText.sg [(nx x1 0)] [] fun v6 d7 =>
 ixW (cnt 1 (nxc k2 0)) (nx x1 1) fun t16_9 =>
 stc (nxc k2 0) [] ((natOf t16_9) * 1) (nx v6 0) fun k10 =>
 prP (bnI .add (nx x1 0) (.int .i64 1)) fun t18_11 =>
 prP (bnI .add (nx x1 1) (.int .i64 1)) fun t11_12 =>
 r3 [t18_11, t11_12] [k10]) (
 K [(nx x1 0)] [(nxc k2 0)])) [a0, (.int .i64 0)] [c0]
theorem laws_markStringS.cl2 {w0 : World} {a0 : Value} {c0 : List T} {K : J2} (h : laws_markStringS.txt ⟨Try.prog, w0⟩ a0 c0 K) : Eng.cl2 ⟨Try.prog, w0⟩ 90 laws_markStringS.sg [a0] [c0] K :=
  cl2_of_run (C := ⟨Try.prog, w0⟩) (f := 90) (fn := Try.f90) [(107, laws_markText.sg)] [] [(26, ⟨[.t (.j 0) 1, .v, .v], [.t (.j 0) 1], [.ls]⟩)] Try.func90 (by kernel_rfl) (by kernel_rfl) (by kernel_rfl) h
/-- laws.heldIntS -/
def laws_heldIntS.sg : Sg := ⟨[(0, [.t 1 0]), (0, [.v])], [(0, [.v])], []⟩
def laws_heldIntS.txt (C : Ctx) (a0 : Value) (c0 : List T) (K : J2) : Prop :=
 loopP (fun r3 x1 k2 =>
 prP (bnI .lss (nx x1 1) (iv (cnt 1 c0))) fun t9_5 =>
 cndP t9_5 (
 ixW (cnt 1 c0) (nx x1 1) fun t14_6 =>
 ldc c0 [] ((natOf t14_6) * 1) fun t15_7 =>
 prP (bnI .neq t15_7 (nx x1 0)) fun t17_8 =>
 cndP t17_8 (
 K [(.int .i64 (-1))] []) (
 prP (bnI .add (nx x1 0) (.int .i64 1)) fun t19_9 =>
 prP (bnI .add (nx x1 1) (.int .i64 1)) fun t11_10 =>
 r3 [t19_9, t11_10] [])) (
 K [(nx x1 0)] [])) [a0, (.int .i64 0)] []
theorem laws_heldIntS.cl2 {w0 : World} {a0 : Value} {c0 : List T} {K : J2} (h : laws_heldIntS.txt ⟨Try.prog, w0⟩ a0 c0 K) : Eng.cl2 ⟨Try.prog, w0⟩ 21 laws_heldIntS.sg [a0] [c0] K :=
  cl2_of_run (C := ⟨Try.prog, w0⟩) (f := 21) (fn := Try.f21) [] [] [(26, ⟨[.t (.f 0) 1, .v, .v], [], []⟩)] Try.func21 (by kernel_rfl) (by kernel_rfl) (by kernel_rfl) h
/-- spec.Speakable -/
def spec_Speakable.sg : Sg := ⟨[(1, [.v, .v, .v, .v, .v])], [(0, [.v])], []⟩
def spec_Speakable.txt (C : Ctx) (a0 a1 a2 a3 a4 : Value) (K : J2) : Prop :=
 cl2 C 154 spec_l1In.sg [a0, (.int .i64 (-1000000000)), (.int .i64 1000000000)] [] fun v1 d2 =>
 gE (nx v1 0) (
 gE (nx v1 0) (
 gP (nx v1 0) true ((fun K => cl2 C 154 spec_l1In.sg [a1, (.int .i64 (-1000000000)), (.int .i64 1000000000)] [] fun v4 d5 => K (nx v4 0))) fun t9_6 =>
 prP (pk (nx v1 0) t9_6 (.bool false)) fun t10_7 =>
 gE t10_7 (
 gE t10_7 (
 gP t10_7 true ((fun K => cl2 C 154 spec_l1In.sg [a2, (.int .i64 (-1000000000)), (.int .i64 1000000000)] [] fun v8 d9 => K (nx v8 0))) fun t14_10 =>
 prP (pk t10_7 t14_10 (.bool false)) fun t15_11 =>
 gE t15_11 (
 gE t15_11 (
 gP t15_11 true ((fun K => cl2 C 154 spec_l1In.sg [a3, (.int .i64 (-1000000000)), (.int .i64 1000000000)] [] fun v12 d13 => K (nx v12 0))) fun t19_14 =>
 prP (pk t15_11 t19_14 (.bool false)) fun t20_15 =>
 gE t20_15 (
 gE t20_15 (
 gP t20_15 true (prP (lnS a4)) fun t24_16 =>
 gP t20_15 true (prP (bnI .leq t24_16 (.int .i64 8))) fun t25_17 =>
 prP (pk t20_15 t25_17 (.bool false)) fun t26_18 =>
 K [t26_18] []))))))))
theorem spec_Speakable.cl2 {w0 : World} {a0 a1 a2 a3 a4 : Value} {K : J2} (h : spec_Speakable.txt ⟨Try.prog, w0⟩ a0 a1 a2 a3 a4 K) : Eng.cl2 ⟨Try.prog, w0⟩ 118 spec_Speakable.sg [a0, a1, a2, a3, a4] [] K :=
  cl2_of_run (C := ⟨Try.prog, w0⟩) (f := 118) (fn := Try.f118) [(154, spec_l1In.sg)] [] [] Try.func118 (by kernel_rfl) (by kernel_rfl) (by kernel_rfl) h
/-- spec.l10AnswerOk -/
def spec_l10AnswerOk.sg : Sg := ⟨[(1, [.v, .v, .t 1 0])], [(0, [.v])], []⟩
def spec_l10AnswerOk.txt (C : Ctx) (a0 a1 : Value) (c0 : List T) (K : J2) : Prop :=
 cl2 C 154 spec_l1In.sg [a0, (.int .i64 0), (.int .i64 6)] [] fun v1 d2 =>
 prP (un .not (nx v1 0)) fun t7_4 =>
 gE t7_4 (
 gE t7_4 (
 gP t7_4 false ((fun K => cl2 C 154 spec_l1In.sg [a1, (.int .i64 (-1000000000)), (.int .i64 1000000000)] [] fun v5 d6 => K (nx v5 0))) fun t11_7 =>
 gP t7_4 false (prP (un .not t11_7)) fun t12_8 =>
 prP (pk t7_4 (.bool true) t12_8) fun t13_9 =>
 gE t13_9 (
 gE t13_9 (
 gE t13_9 (
 gP t13_9 false (prP (bnI .gtr (iv (cnt 1 c0)) (.int .i64 8))) fun t18_10 =>
 prP (pk t13_9 (.bool true) t18_10) fun t19_11 =>
 cndP t19_11 (
 K [(.bool false)] []) (
 loopP (fun r14 x12 k13 =>
 prP (bnI .lss (nx x12 0) (iv (cnt 1 c0))) fun t24_16 =>
 cndP t24_16 (
 ixW (cnt 1 c0) (nx x12 0) fun t30_17 =>
 ldc c0 [] ((natOf t30_17) * 1) fun t31_18 =>
 cl2 C 154 spec_l1In.sg [t31_18, (.int .i64 (-1000000000)), (.int .i64 1000000000)] [] fun v19 d20 =>
 prP (un .not (nx v19 0)) fun t33_22 =>
 cndP t33_22 (
 K [(.bool false)] []) (
 prP (bnI .add (nx x12 0) (.int .i64 1)) fun t26_23 =>
 r14 [t26_23, (nx x12 1), (nx x12 2)] [])) (
 K [(.bool true)] [])) [(.int .i64 0), a0, a1] []))))))
theorem spec_l10AnswerOk.cl2 {w0 : World} {a0 a1 : Value} {c0 : List T} {K : J2} (h : spec_l10AnswerOk.txt ⟨Try.prog, w0⟩ a0 a1 c0 K) : Eng.cl2 ⟨Try.prog, w0⟩ 119 spec_l10AnswerOk.sg [a0, a1] [c0] K :=
  cl2_of_run (C := ⟨Try.prog, w0⟩) (f := 119) (fn := Try.f119) [(154, spec_l1In.sg)] [] [(58, ⟨[.p (.j 0) 0, .v], [], [.bx [.v, .v, .t (.f 0) 1]]⟩)] Try.func119 (by kernel_rfl) (by kernel_rfl) (by kernel_rfl) h
end Go.Proofs.Ytnhicpkhkaihoaa.P
