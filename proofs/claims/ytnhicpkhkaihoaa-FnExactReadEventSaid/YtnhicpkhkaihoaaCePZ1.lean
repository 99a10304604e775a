/- The functions of the code as the pure engine's texts, printed by my program gen2.py: each with its call. -/
import Derived.Test.YtnhicpkhkaihoaaChecked
import Derived.Test.YtnhicpkhkaihoaaCePZ0
import Derived.KernelRfl
namespace Go.Proofs.Ytnhicpkhkaihoaa.P
open Go Go.Proofs.Ytnhicpkhkaihoaa Go.Proofs.Ytnhicpkhkaihoaa.Eng
set_option linter.unusedVariables false
set_option maxRecDepth 100000
/-- spec.l10PenOk -/
def spec_l10PenOk.sg : Sg := ⟨[(1, [.v, .t 1 0])], [(0, [.v])], []⟩
def spec_l10PenOk.txt (C : Ctx) (a0 : Value) (c0 : List T) (K : J2) : Prop :=
 loopP (fun r3 x1 k2 =>
 prP (bnI .lss (nx x1 0) (iv (cnt 1 c0))) fun t9_5 =>
 cndP t9_5 (
 ixW (cnt 1 c0) (nx x1 0) fun t15_6 =>
 ldc c0 [] ((natOf t15_6) * 1) fun t16_7 =>
 prP (lnS t16_7) fun t17_8 =>
 prP (bnI .gtr t17_8 (.int .i64 8)) fun t18_9 =>
 cndP t18_9 (
 K [(.bool false)] []) (
 loopP (fun r12 x10 k11 =>
 prP (bnI .lss (nx x10 1) (nx x10 0)) fun t21_14 =>
 cndP t21_14 (
 ixW (cnt 1 c0) (nx x10 1) fun t27_15 =>
 ldc c0 [] ((natOf t27_15) * 1) fun t28_16 =>
 ixW (cnt 1 c0) (nx x10 0) fun t32_17 =>
 ldc c0 [] ((natOf t32_17) * 1) fun t33_18 =>
 prP (bnS .eql t28_16 t33_18) fun t34_19 =>
 cndP t34_19 (
 K [(.bool false)] []) (
 prP (bnI .add (nx x10 1) (.int .i64 1)) fun t23_20 =>
 r12 [(nx x10 0), t23_20, (nx x10 2)] [])) (
 prP (bnI .add (nx x10 0) (.int .i64 1)) fun t11_21 =>
 r3 [t11_21, (nx x10 2)] [])) [(nx x1 0), (.int .i64 0), (nx x1 1)] [])) (
 cl2 C 154 spec_l1In.sg [(nx x1 1), (.int .i64 (-1000000000)), (.int .i64 1000000000)] [] fun v22 d23 =>
 gE (nx v22 0) (
 gE (nx v22 0) (
 gE (nx v22 0) (
 gP (nx v22 0) true (prP (bnI .leq (iv (cnt 1 c0)) (.int .i64 400))) fun t42_25 =>
 prP (pk (nx v22 0) t42_25 (.bool false)) fun t43_26 =>
 K [t43_26] []))))) [(.int .i64 0), a0] []
theorem spec_l10PenOk.cl2 {w0 : World} {a0 : Value} {c0 : List T} {K : J2} (h : spec_l10PenOk.txt ⟨Try.prog, w0⟩ a0 c0 K) : Eng.cl2 ⟨Try.prog, w0⟩ 120 spec_l10PenOk.sg [a0] [c0] K :=
  cl2_of_run (C := ⟨Try.prog, w0⟩) (f := 120) (fn := Try.f120) [(154, spec_l1In.sg)] [(9, [0, 1, 0, 7, 15, 0, 32, 0, 224, 480, 1023])] [(3366, ⟨[.p (.j 0) 0, .v, .v], [], [.bx [.v, .t (.f 0) 1]]⟩), (26, ⟨[.p (.j 0) 0, .v], [], [.bx [.v, .t (.f 0) 1]]⟩)] Try.func120 (by kernel_rfl) (by kernel_rfl) (by kernel_rfl) h
/-- spec.Var -/
def spec_Var.sg : Sg := ⟨[(0, [.v])], [(0, [.v])], []⟩
def spec_Var.txt (C : Ctx) (a0 : Value) (K : J2) : Prop :=
 cl2 C 154 spec_l1In.sg [a0, (.int .i64 0), (.int .i64 562949953421311)] [] fun v1 d2 =>
 prP (un .not (nx v1 0)) fun t6_4 =>
 cndP t6_4 (
 K [(.string { data := #[] })] []) (
 loopP (fun r7 x5 k6 =>
 prP (bnI .geq (nx x5 0) (.int .i64 128)) fun t9_9 =>
 cndP t9_9 (
 prP (bnI .rem (nx x5 0) (.int .i64 128)) fun t12_10 =>
 prP (bnI .add (.int .i64 128) t12_10) fun t13_11 =>
 prP (cvI .u8 t13_11) fun t14_12 =>
 apW [T.c t14_12] true (cnt 1 (nxc k6 0)) (cnt 1 [T.c t14_12]) 1 (
 prP (bnI .quo (nx x5 0) (.int .i64 128)) fun t18_13 =>
 r7 [t18_13] [((nxc k6 0) ++ [T.c t14_12])])) (
 prP (cvI .u8 (nx x5 0)) fun t21_14 =>
 apW [T.c t21_14] true (cnt 1 (nxc k6 0)) (cnt 1 [T.c t21_14]) 1 (
 prP (b2T ((nxc k6 0) ++ [T.c t21_14])) fun t24_15 =>
 K [t24_15] []))) [a0] [[]])
theorem spec_Var.cl2 {w0 : World} {a0 : Value} {K : J2} (h : spec_Var.txt ⟨Try.prog, w0⟩ a0 K) : Eng.cl2 ⟨Try.prog, w0⟩ 123 spec_Var.sg [a0] [] K :=
  cl2_of_run (C := ⟨Try.prog, w0⟩) (f := 123) (fn := Try.f123) [(154, spec_l1In.sg)] [] [(60, ⟨[.v, .t (.j 0) 1], [], [.ls]⟩)] Try.func123 (by kernel_rfl) (by kernel_rfl) (by kernel_rfl) h
/-- spec.ShowText -/
def spec_ShowText.sg : Sg := ⟨[(0, [.v])], [(0, [.v])], []⟩
def spec_ShowText.txt (C : Ctx) (a0 : Value) (K : J2) : Prop :=
 prP (lnS a0) fun t4_1 =>
 prP (bnI .gtr t4_1 (.int .i64 8)) fun t5_2 =>
 cndP t5_2 (
 K [(.string { data := #[] })] []) (
 prP (lnS a0) fun t7_3 =>
 cl2 C 123 spec_Var.sg [t7_3] [] fun v4 d5 =>
 prP (bnS .add (nx v4 0) a0) fun t10_7 =>
 K [t10_7] [])
theorem spec_ShowText.cl2 {w0 : World} {a0 : Value} {K : J2} (h : spec_ShowText.txt ⟨Try.prog, w0⟩ a0 K) : Eng.cl2 ⟨Try.prog, w0⟩ 178 spec_ShowText.sg [a0] [] K :=
  cl2_of_run (C := ⟨Try.prog, w0⟩) (f := 178) (fn := Try.f178) [(123, spec_Var.sg)] [] [] Try.func178 (by kernel_rfl) (by kernel_rfl) (by kernel_rfl) h
/-- spec.l10Site -/
def spec_l10Site.sg : Sg := ⟨[(1, [.v, .t 1 0]), (0, [.v])], [(0, [.v]), (1, [.v, .t 1])], []⟩
def spec_l10Site.txt (C : Ctx) (a0 a1 : Value) (c0 : List T) (K : J2) : Prop :=
 apW c0 true (cnt 1 []) (cnt 1 c0) 16 (
 loopP (fun r3 x1 k2 =>
 prP (bnI .lss (nx x1 1) (iv (cnt 1 c0))) fun t19_5 =>
 cndP t19_5 (
 ixW (cnt 1 c0) (nx x1 1) fun t25_6 =>
 ldc c0 [] ((natOf t25_6) * 1) fun t26_7 =>
 prP (bnS .eql t26_7 (nx x1 0)) fun t28_8 =>
 cndP t28_8 (
 prP (bnI .add (nx x1 1) (.int .i64 1)) fun t30_9 =>
 cl2 C 123 spec_Var.sg [t30_9] [] fun v10 d11 =>
 K [(nx v10 0), (nx x1 4)] [(nxc k2 0)]) (
 prP (bnI .add (nx x1 1) (.int .i64 1)) fun t21_13 =>
 r3 [(nx x1 0), t21_13, (nx x1 2), (nx x1 3), (nx x1 4)] [(nxc k2 0)])) (
 apW [T.c (nx x1 0)] true (cnt 1 (nxc k2 0)) (cnt 1 [T.c (nx x1 0)]) 16 (
 cl2 C 123 spec_Var.sg [(.int .i64 0)] [] fun v14 d15 =>
 cl2 C 178 spec_ShowText.sg [(nx x1 0)] [] fun v17 d18 =>
 prP (bnS .add (nx v14 0) (nx v17 0)) fun t42_20 =>
 K [t42_20, (nx x1 4)] [((nxc k2 0) ++ [T.c (nx x1 0)])]))) [a1, (.int .i64 0), a0, (.int .i64 0), a0] [([] ++ c0)])
theorem spec_l10Site.cl2 {w0 : World} {a0 a1 : Value} {c0 : List T} {K : J2} (h : spec_l10Site.txt ⟨Try.prog, w0⟩ a0 a1 c0 K) : Eng.cl2 ⟨Try.prog, w0⟩ 121 spec_l10Site.sg [a0, a1] [c0] K :=
  cl2_of_run (C := ⟨Try.prog, w0⟩) (f := 121) (fn := Try.f121) [(123, spec_Var.sg), (178, spec_ShowText.sg)] [(1, [0, 1, 0, 0, 8, 28, 63, 0, 255]), (6, [0, 1, 3, 0, 7, 31]), (8, [0, 0, 3, 7, 0, 15, 63])] [(58, ⟨[.v, .p (.j 0) 0, .p (.j 1) 0, .p (.j 2) 0, .v], [], [.bx [.v, .t (.f 0) 1], .bx [.v, .z], .bx [.v, .t (.j 3) 1], .ls]⟩)] Try.func121 (by kernel_rfl) (by kernel_rfl) (by kernel_rfl) h
/-- spec.Zig -/
def spec_Zig.sg : Sg := ⟨[(0, [.v])], [(0, [.v])], []⟩
def spec_Zig.txt (C : Ctx) (a0 : Value) (K : J2) : Prop :=
 cl2 C 154 spec_l1In.sg [a0, (.int .i64 (-100000000000000)), (.int .i64 100000000000000)] [] fun v1 d2 =>
 prP (un .not (nx v1 0)) fun t5_4 =>
 cndP t5_4 (
 K [(.int .i64 (-1))] []) (
 prP (bnI .lss a0 (.int .i64 0)) fun t7_5 =>
 cndP t7_5 (
 prP (bnI .mul (.int .i64 (-2)) a0) fun t9_6 =>
 prP (bnI .sub t9_6 (.int .i64 1)) fun t10_7 =>
 K [t10_7] []) (
 prP (bnI .mul (.int .i64 2) a0) fun t12_8 =>
 K [t12_8] []))
theorem spec_Zig.cl2 {w0 : World} {a0 : Value} {K : J2} (h : spec_Zig.txt ⟨Try.prog, w0⟩ a0 K) : Eng.cl2 ⟨Try.prog, w0⟩ 179 spec_Zig.sg [a0] [] K :=
  cl2_of_run (C := ⟨Try.prog, w0⟩) (f := 179) (fn := Try.f179) [(154, spec_l1In.sg)] [] [] Try.func179 (by kernel_rfl) (by kernel_rfl) (by kernel_rfl) h
/-- spec.ShowInt -/
def spec_ShowInt.sg : Sg := ⟨[(0, [.v])], [(0, [.v])], []⟩
def spec_ShowInt.txt (C : Ctx) (a0 : Value) (K : J2) : Prop :=
 cl2 C 179 spec_Zig.sg [a0] [] fun v1 d2 =>
 prP (bnI .lss (nx v1 0) (.int .i64 0)) fun t7_4 =>
 cndP t7_4 (
 K [(.string { data := #[] })] []) (
 cl2 C 123 spec_Var.sg [(nx v1 0)] [] fun v5 d6 =>
 K [(nx v5 0)] [])
theorem spec_ShowInt.cl2 {w0 : World} {a0 : Value} {K : J2} (h : spec_ShowInt.txt ⟨Try.prog, w0⟩ a0 K) : Eng.cl2 ⟨Try.prog, w0⟩ 122 spec_ShowInt.sg [a0] [] K :=
  cl2_of_run (C := ⟨Try.prog, w0⟩) (f := 122) (fn := Try.f122) [(179, spec_Zig.sg), (123, spec_Var.sg)] [] [] Try.func122 (by kernel_rfl) (by kernel_rfl) (by kernel_rfl) h
/-- spec.ShowEvent -/
def spec_ShowEvent.sg : Sg := ⟨[(1, [.v, .t 1 0]), (1, [.v, .v, .v, .v, .v]), (1, [.v, .v, .t 1 0])], [(0, [.v]), (1, [.v, .t 1])], []⟩
def spec_ShowEvent.txt (C : Ctx) (a0 a1 a2 a3 a4 a5 a6 a7 : Value) (c0 c1 : List T) (K : J2) : Prop :=
 cl2 C 118 spec_Speakable.sg [a1, a2, a3, a4, a5] [] fun v1 d2 =>
 prP (un .not (nx v1 0)) fun t15_4 =>
 gE t15_4 (
 gP t15_4 false ((fun K => cl2 C 119 spec_l10AnswerOk.sg [a6, a7] [c1] fun v5 d6 => K (nx v5 0))) fun t18_7 =>
 gP t15_4 false (prP (un .not t18_7)) fun t19_8 =>
 prP (pk t15_4 (.bool true) t19_8) fun t20_9 =>
 gE t20_9 (
 gP t20_9 false ((fun K => cl2 C 120 spec_l10PenOk.sg [a0] [c0] fun v10 d11 => K (nx v10 0))) fun t23_12 =>
 gP t20_9 false (prP (un .not t23_12)) fun t24_13 =>
 prP (pk t20_9 (.bool true) t24_13) fun t25_14 =>
 cndP t25_14 (
 apW c0 true (cnt 1 []) (cnt 1 c0) 16 (
 K [(.string { data := #[] }), a0] [([] ++ c0)])) (
 cl2 C 121 spec_l10Site.sg [a0, a5] [c0] fun v15 d16 =>
 cl2 C 122 spec_ShowInt.sg [a1] [] fun v17 d18 =>
 prP (bnI .sub a2 a0) fun t47_20 =>
 cl2 C 122 spec_ShowInt.sg [t47_20] [] fun v21 d22 =>
 prP (bnS .add (nx v17 0) (nx v21 0)) fun t49_24 =>
 cl2 C 122 spec_ShowInt.sg [a3] [] fun v25 d26 =>
 prP (bnS .add t49_24 (nx v25 0)) fun t53_28 =>
 prP (bnI .sub a4 a2) fun t58_29 =>
 cl2 C 122 spec_ShowInt.sg [t58_29] [] fun v30 d31 =>
 prP (bnS .add t53_28 (nx v30 0)) fun t60_33 =>
 prP (bnS .add t60_33 (nx v15 0)) fun t62_34 =>
 cl2 C 123 spec_Var.sg [a6] [] fun v35 d36 =>
 prP (bnS .add t62_34 (nx v35 0)) fun t66_38 =>
 prP (bnI .sub a7 a2) fun t71_39 =>
 cl2 C 122 spec_ShowInt.sg [t71_39] [] fun v40 d41 =>
 prP (bnS .add t66_38 (nx v40 0)) fun t73_43 =>
 cl2 C 123 spec_Var.sg [(iv (cnt 1 c1))] [] fun v44 d45 =>
 prP (bnS .add t73_43 (nx v44 0)) fun t78_47 =>
 loopP (fun r50 x48 k49 =>
 prP (bnI .lss (nx x48 2) (iv (cnt 1 c1))) fun t85_52 =>
 cndP t85_52 (
 ixW (cnt 1 c1) (nx x48 2) fun t92_53 =>
 ldc c1 [] ((natOf t92_53) * 1) fun t93_54 =>
 prP (bnI .sub t93_54 (nx x48 1)) fun t95_55 =>
 cl2 C 122 spec_ShowInt.sg [t95_55] [] fun v56 d57 =>
 prP (bnS .add (nx x48 0) (nx v56 0)) fun t97_59 =>
 ixW (cnt 1 c1) (nx x48 2) fun t101_60 =>
 ldc c1 [] ((natOf t101_60) * 1) fun t102_61 =>
 prP (bnI .add (nx x48 2) (.int .i64 1)) fun t87_62 =>
 r50 [t97_59, t102_61, t87_62, (nx x48 3), (nx x48 4), (nx x48 5), (nx x48 6), (nx x48 7), (nx x48 8), (nx x48 9), (nx x48 10), (nx x48 11)] [(nxc k49 0)]) (
 K [(nx x48 0), (nx x48 4)] [(nxc k49 0)])) [t78_47, a2, (.int .i64 0), a1, a2, a3, a4, a5, a6, a7, (.int .i64 0), (nx v15 1)] [(nxc d16 0)])))
theorem spec_ShowEvent.cl2 {w0 : World} {a0 a1 a2 a3 a4 a5 a6 a7 : Value} {c0 c1 : List T} {K : J2} (h : spec_ShowEvent.txt ⟨Try.prog, w0⟩ a0 a1 a2 a3 a4 a5 a6 a7 c0 c1 K) : Eng.cl2 ⟨Try.prog, w0⟩ 52 spec_ShowEvent.sg [a0, a1, a2, a3, a4, a5, a6, a7] [c0, c1] K :=
  cl2_of_run (C := ⟨Try.prog, w0⟩) (f := 52) (fn := Try.f52) [(118, spec_Speakable.sg), (119, spec_l10AnswerOk.sg), (120, spec_l10PenOk.sg), (121, spec_l10Site.sg), (122, spec_ShowInt.sg), (123, spec_Var.sg)] [(2, [0, 1, 0, 0, 8, 28, 63, 60, 255]), (4, [0, 1, 3, 0, 8, 0, 32, 120, 255, 511, 0, 1024, 3583, 8191, 0, 16384, 0, 65536, 245760, 515583, 1048575, 0, 4194303, 0, 8388608, 26205695, 67108863, 0, 134217728, 0, 536870912, 2013265920, 4220509695, 8589934591, 0, 17179869184, 51539607552, 128774561279, 274877906943, 549755813887]), (12, [0, 0, 1, 7])] [(506, ⟨[.p (.j 0) 0, .p (.j 1) 0, .p (.j 2) 0, .p (.j 3) 0, .v, .v, .v], [], [.bx [.v, .v, .v, .v, .v], .bx [.v, .v, .t (.f 1) 1], .bx [.v, .z], .bx [.v, .t (.j 4) 1], .ls]⟩)] Try.func52 (by kernel_rfl) (by kernel_rfl) (by kernel_rfl) h
/-- impl.copyTexts -/
def impl_copyTexts.sg : Sg := ⟨[(0, [.t 1 0])], [(0, [.t 1])], []⟩
def impl_copyTexts.txt (C : Ctx) (c0 : List T) (K : J2) : Prop :=
 apW c0 true 0 (cnt 1 c0) 16 (
 K [] [([] ++ c0)])
theorem impl_copyTexts.cl2 {w0 : World} {c0 : List T} {K : J2} (h : impl_copyTexts.txt ⟨Try.prog, w0⟩ c0 K) : Eng.cl2 ⟨Try.prog, w0⟩ 144 impl_copyTexts.sg [] [c0] K :=
  cl2_of_run (C := ⟨Try.prog, w0⟩) (f := 144) (fn := Try.f144) [] [] [] Try.func144 (by kernel_rfl) (by kernel_rfl) (by kernel_rfl) h
/-- impl.copyPen -/
def impl_copyPen.sg : Sg := ⟨[(1, [.v, .t 1 0])], [(1, [.v, .t 1])], []⟩
def impl_copyPen.txt (C : Ctx) (a0 : Value) (c0 : List T) (K : J2) : Prop :=
 cl2 C 144 impl_copyTexts.sg [] [c0] fun v1 d2 =>
 K [a0] [(nxc d2 0)]
theorem impl_copyPen.cl2 {w0 : World} {a0 : Value} {c0 : List T} {K : J2} (h : impl_copyPen.txt ⟨Try.prog, w0⟩ a0 c0 K) : Eng.cl2 ⟨Try.prog, w0⟩ 103 impl_copyPen.sg [a0] [c0] K :=
  cl2_of_run (C := ⟨Try.prog, w0⟩) (f := 103) (fn := Try.f103) [(144, impl_copyTexts.sg)] [(1, [0, 1, 0, 4, 12, 31, 63])] [] Try.func103 (by kernel_rfl) (by kernel_rfl) (by kernel_rfl) h
/-- impl.isArg -/
def impl_isArg.sg : Sg := ⟨[(0, [.v])], [(0, [.v])], []⟩
def impl_isArg.txt (C : Ctx) (a0 : Value) (K : J2) : Prop :=
 cl2 C 157 impl_in.sg [a0, (.int .i64 (-1000000000)), (.int .i64 1000000000)] [] fun v1 d2 =>
 K [(nx v1 0)] []
theorem impl_isArg.cl2 {w0 : World} {a0 : Value} {K : J2} (h : impl_isArg.txt ⟨Try.prog, w0⟩ a0 K) : Eng.cl2 ⟨Try.prog, w0⟩ 126 impl_isArg.sg [a0] [] K :=
  cl2_of_run (C := ⟨Try.prog, w0⟩) (f := 126) (fn := Try.f126) [(157, impl_in.sg)] [] [] Try.func126 (by kernel_rfl) (by kernel_rfl) (by kernel_rfl) h
/-- impl.Speakable -/
def impl_Speakable.sg : Sg := ⟨[(1, [.v, .v, .v, .v, .v])], [(0, [.v])], []⟩
def impl_Speakable.txt (C : Ctx) (a0 a1 a2 a3 a4 : Value) (K : J2) : Prop :=
 cl2 C 126 impl_isArg.sg [a0] [] fun v1 d2 =>
 gE (nx v1 0) (
 gE (nx v1 0) (
 gP (nx v1 0) true ((fun K => cl2 C 126 impl_isArg.sg [a1] [] fun v4 d5 => K (nx v4 0))) fun t9_6 =>
 prP (pk (nx v1 0) t9_6 (.bool false)) fun t10_7 =>
 gE t10_7 (
 gE t10_7 (
 gP t10_7 true ((fun K => cl2 C 126 impl_isArg.sg [a2] [] fun v8 d9 => K (nx v8 0))) fun t14_10 =>
 prP (pk t10_7 t14_10 (.bool false)) fun t15_11 =>
 gE t15_11 (
 gE t15_11 (
 gP t15_11 true ((fun K => cl2 C 126 impl_isArg.sg [a3] [] fun v12 d13 => K (nx v12 0))) fun t19_14 =>
 prP (pk t15_11 t19_14 (.bool false)) fun t20_15 =>
 gE t20_15 (
 gE t20_15 (
 gP t20_15 true (prP (lnS a4)) fun t24_16 =>
 gP t20_15 true (prP (bnI .leq t24_16 (.int .i64 8))) fun t25_17 =>
 prP (pk t20_15 t25_17 (.bool false)) fun t26_18 =>
 K [t26_18] []))))))))
theorem impl_Speakable.cl2 {w0 : World} {a0 a1 a2 a3 a4 : Value} {K : J2} (h : impl_Speakable.txt ⟨Try.prog, w0⟩ a0 a1 a2 a3 a4 K) : Eng.cl2 ⟨Try.prog, w0⟩ 56 impl_Speakable.sg [a0, a1, a2, a3, a4] [] K :=
  cl2_of_run (C := ⟨Try.prog, w0⟩) (f := 56) (fn := Try.f56) [(126, impl_isArg.sg)] [] [] Try.func56 (by kernel_rfl) (by kernel_rfl) (by kernel_rfl) h
/-- impl.answerable -/
def impl_answerable.sg : Sg := ⟨[(1, [.v, .v, .t 1 0])], [(0, [.v])], []⟩
def impl_answerable.txt (C : Ctx) (a0 a1 : Value) (c0 : List T) (K : J2) : Prop :=
 loopP (fun r3 x1 k2 =>
 prP (bnI .lss (nx x1 1) (nx x1 0)) fun t9_5 =>
 cndP t9_5 (
 ixW (cnt 1 c0) (nx x1 1) fun t10_6 =>
 ldc c0 [] ((natOf t10_6) * 1) fun t11_7 =>
 cl2 C 126 impl_isArg.sg [t11_7] [] fun v8 d9 =>
 prP (un .not (nx v8 0)) fun t14_11 =>
 cndP t14_11 (
 K [(.bool false)] []) (
 prP (bnI .add (nx x1 1) (.int .i64 1)) fun t15_12 =>
 r3 [(nx x1 0), t15_12, (nx x1 2), (nx x1 3)] [])) (
 cl2 C 157 impl_in.sg [(nx x1 2), (.int .i64 0), (.int .i64 6)] [] fun v13 d14 =>
 gE (nx v13 0) (
 gE (nx v13 0) (
 gP (nx v13 0) true ((fun K => cl2 C 126 impl_isArg.sg [(nx x1 3)] [] fun v16 d17 => K (nx v16 0))) fun t22_18 =>
 prP (pk (nx v13 0) t22_18 (.bool false)) fun t23_19 =>
 gE t23_19 (
 gE t23_19 (
 gE t23_19 (
 gP t23_19 true (prP (bnI .leq (iv (cnt 1 c0)) (.int .i64 8))) fun t28_20 =>
 prP (pk t23_19 t28_20 (.bool false)) fun t29_21 =>
 K [t29_21] []))))))) [(iv (cnt 1 c0)), (.int .i64 0), a0, a1] []
theorem impl_answerable.cl2 {w0 : World} {a0 a1 : Value} {c0 : List T} {K : J2} (h : impl_answerable.txt ⟨Try.prog, w0⟩ a0 a1 c0 K) : Eng.cl2 ⟨Try.prog, w0⟩ 112 impl_answerable.sg [a0, a1] [c0] K :=
  cl2_of_run (C := ⟨Try.prog, w0⟩) (f := 112) (fn := Try.f112) [(126, impl_isArg.sg), (157, impl_in.sg)] [] [(26, ⟨[.p (.j 0) 0, .t (.f 0) 1, .v, .v], [], [.bx [.v, .v, .t (.f 0) 1]]⟩)] Try.func112 (by kernel_rfl) (by kernel_rfl) (by kernel_rfl) h
/-- impl.textAt -/
def impl_textAt.sg : Sg := ⟨[(0, [.t 1 0]), (0, [.v])], [(0, [.v])], []⟩
def impl_textAt.txt (C : Ctx) (a0 : Value) (c0 : List T) (K : J2) : Prop :=
 loopP (fun r3 x1 k2 =>
 prP (bnI .lss (nx x1 2) (nx x1 1)) fun t10_5 =>
 cndP t10_5 (
 ixW (cnt 1 c0) (nx x1 2) fun t12_6 =>
 ldc c0 [] ((natOf t12_6) * 1) fun t13_7 =>
 prP (bnS .eql t13_7 (nx x1 0)) fun t16_8 =>
 cndP t16_8 (
 K [(nx x1 2)] []) (
 prP (bnI .add (nx x1 2) (.int .i64 1)) fun t18_9 =>
 r3 [(nx x1 0), (nx x1 1), t18_9] [])) (
 K [(.int .i64 (-1))] [])) [a0, (iv (cnt 1 c0)), (.int .i64 0)] []
theorem impl_textAt.cl2 {w0 : World} {a0 : Value} {c0 : List T} {K : J2} (h : impl_textAt.txt ⟨Try.prog, w0⟩ a0 c0 K) : Eng.cl2 ⟨Try.prog, w0⟩ 115 impl_textAt.sg [a0] [c0] K :=
  cl2_of_run (C := ⟨Try.prog, w0⟩) (f := 115) (fn := Try.f115) [] [] [(26, ⟨[.v, .t (.f 0) 1, .v, .v], [], []⟩)] Try.func115 (by kernel_rfl) (by kernel_rfl) (by kernel_rfl) h
/-- impl.hasText -/
def impl_hasText.sg : Sg := ⟨[(0, [.t 1 0]), (0, [.v])], [(0, [.v])], []⟩
def impl_hasText.txt (C : Ctx) (a0 : Value) (c0 : List T) (K : J2) : Prop :=
 cl2 C 115 impl_textAt.sg [a0] [c0] fun v1 d2 =>
 prP (bnI .geq (nx v1 0) (.int .i64 0)) fun t8_4 =>
 K [t8_4] []
theorem impl_hasText.cl2 {w0 : World} {a0 : Value} {c0 : List T} {K : J2} (h : impl_hasText.txt ⟨Try.prog, w0⟩ a0 c0 K) : Eng.cl2 ⟨Try.prog, w0⟩ 176 impl_hasText.sg [a0] [c0] K :=
  cl2_of_run (C := ⟨Try.prog, w0⟩) (f := 176) (fn := Try.f176) [(115, impl_textAt.sg)] [] [] Try.func176 (by kernel_rfl) (by kernel_rfl) (by kernel_rfl) h
/-- impl.penOk -/
def impl_penOk.sg : Sg := ⟨[(1, [.v, .t 1 0])], [(0, [.v])], []⟩
def impl_penOk.txt (C : Ctx) (a0 : Value) (c0 : List T) (K : J2) : Prop :=
 loopP (fun r3 x1 k2 =>
 prP (bnI .lss (nx x1 1) (nx x1 0)) fun t9_5 =>
 cndP t9_5 (
 ixW (cnt 1 c0) (nx x1 1) fun t11_6 =>
 ldc c0 [] ((natOf t11_6) * 1) fun t12_7 =>
 prP (lnS t12_7) fun t14_8 =>
 prP (bnI .gtr t14_8 (.int .i64 8)) fun t15_9 =>
 gE t15_9 (
 gE t15_9 (
 gE t15_9 (
 gP t15_9 false ((fun K => scW (cnt 1 c0) none (some (nx x1 1)) fun l m => K (two l m))) fun t20_10 =>
 gE t15_9 (
 gP t15_9 false ((fun K => cl2 C 176 impl_hasText.sg [t12_7] [(sub2 c0 [] ((natOf (fst2 t20_10)) * 1) ((natOf (snd2 t20_10)) * 1))] fun v11 d12 => K (nx v11 0))) fun t22_13 =>
 prP (pk t15_9 (.bool true) t22_13) fun t23_14 =>
 cndP t23_14 (
 K [(.bool false)] []) (
 prP (bnI .add (nx x1 1) (.int .i64 1)) fun t24_15 =>
 r3 [(nx x1 0), t24_15, (nx x1 2)] [])))))) (
 cl2 C 126 impl_isArg.sg [(nx x1 2)] [] fun v16 d17 =>
 gE (nx v16 0) (
 gE (nx v16 0) (
 gE (nx v16 0) (
 gP (nx v16 0) true (prP (bnI .leq (iv (cnt 1 c0)) (.int .i64 400))) fun t32_19 =>
 prP (pk (nx v16 0) t32_19 (.bool false)) fun t33_20 =>
 K [t33_20] []))))) [(iv (cnt 1 c0)), (.int .i64 0), a0] []
theorem impl_penOk.cl2 {w0 : World} {a0 : Value} {c0 : List T} {K : J2} (h : impl_penOk.txt ⟨Try.prog, w0⟩ a0 c0 K) : Eng.cl2 ⟨Try.prog, w0⟩ 113 impl_penOk.sg [a0] [c0] K :=
  cl2_of_run (C := ⟨Try.prog, w0⟩) (f := 113) (fn := Try.f113) [(176, impl_hasText.sg), (126, impl_isArg.sg)] [] [(26, ⟨[.p (.j 0) 0, .t (.f 0) 1, .v, .v], [], [.bx [.v, .t (.f 0) 1]]⟩)] Try.func113 (by kernel_rfl) (by kernel_rfl) (by kernel_rfl) h
/-- impl.Zig -/
def impl_Zig.sg : Sg := ⟨[(0, [.v])], [(0, [.v])], []⟩
def impl_Zig.txt (C : Ctx) (a0 : Value) (K : J2) : Prop :=
 cl2 C 157 impl_in.sg [a0, (.int .i64 (-100000000000000)), (.int .i64 100000000000000)] [] fun v1 d2 =>
 prP (un .not (nx v1 0)) fun t6_4 =>
 cndP t6_4 (
 K [(.int .i64 (-1))] []) (
 prP (bnI .lss a0 (.int .i64 0)) fun t9_5 =>
 cndP t9_5 (
 prP (bnI .mul (.int .i64 (-2)) a0) fun t11_6 =>
 prP (bnI .sub t11_6 (.int .i64 1)) fun t12_7 =>
 K [t12_7] []) (
 prP (bnI .mul (.int .i64 2) a0) fun t14_8 =>
 K [t14_8] []))
theorem impl_Zig.cl2 {w0 : World} {a0 : Value} {K : J2} (h : impl_Zig.txt ⟨Try.prog, w0⟩ a0 K) : Eng.cl2 ⟨Try.prog, w0⟩ 177 impl_Zig.sg [a0] [] K :=
  cl2_of_run (C := ⟨Try.prog, w0⟩) (f := 177) (fn := Try.f177) [(157, impl_in.sg)] [] [] Try.func177 (by kernel_rfl) (by kernel_rfl) (by kernel_rfl) h
/-- impl.Var -/
def impl_Var.sg : Sg := ⟨[(0, [.v])], [(0, [.v])], []⟩
def impl_Var.txt (C : Ctx) (a0 : Value) (K : J2) : Prop :=
 cl2 C 157 impl_in.sg [a0, (.int .i64 0), (.int .i64 562949953421311)] [] fun v1 d2 =>
 prP (un .not (nx v1 0)) fun t6_4 =>
 cndP t6_4 (
 K [(.string { data := #[] })] []) (
 loopP (fun r7 x5 k6 =>
 prP (bnI .gtr (nx x5 0) (.int .i64 127)) fun t8_17 =>
 cndP t8_17 (
 prP (bnI .rem (nx x5 0) (.int .i64 128)) fun t11_18 =>
 prP (bnI .add t11_18 (.int .i64 128)) fun t12_19 =>
 prP (cvI .u8 t12_19) fun t13_20 =>
 apW [T.c t13_20] true (cnt 1 (nxc k6 0)) (cnt 1 [T.c t13_20]) 1 (
 prP (bnI .quo (nx x5 0) (.int .i64 128)) fun t17_21 =>
 r7 [t17_21] [((nxc k6 0) ++ [T.c t13_20])])) (
 prP (cvI .u8 (nx x5 0)) fun t20_22 =>
 apW [T.c t20_22] true (cnt 1 (nxc k6 0)) (cnt 1 [T.c t20_22]) 1 (
 prP (b2T ((nxc k6 0) ++ [T.c t20_22])) fun t23_23 =>
 K [t23_23] []))) [a0] [[]])
theorem impl_Var.cl2 {w0 : World} {a0 : Value} {K : J2} (h : impl_Var.txt ⟨Try.prog, w0⟩ a0 K) : Eng.cl2 ⟨Try.prog, w0⟩ 116 impl_Var.sg [a0] [] K :=
  cl2_of_run (C := ⟨Try.prog, w0⟩) (f := 116) (fn := Try.f116) [(157, impl_in.sg)] [] [(60, ⟨[.v, .t (.j 0) 1], [], [.ls]⟩)] Try.func116 (by kernel_rfl) (by kernel_rfl) (by kernel_rfl) h
/-- impl.ShowInt -/
def impl_ShowInt.sg : Sg := ⟨[(0, [.v])], [(0, [.v])], []⟩
def impl_ShowInt.txt (C : Ctx) (a0 : Value) (K : J2) : Prop :=
 cl2 C 177 impl_Zig.sg [a0] [] fun v1 d2 =>
 cl2 C 116 impl_Var.sg [(nx v1 0)] [] fun v4 d5 =>
 K [(nx v4 0)] []
theorem impl_ShowInt.cl2 {w0 : World} {a0 : Value} {K : J2} (h : impl_ShowInt.txt ⟨Try.prog, w0⟩ a0 K) : Eng.cl2 ⟨Try.prog, w0⟩ 114 impl_ShowInt.sg [a0] [] K :=
  cl2_of_run (C := ⟨Try.prog, w0⟩) (f := 114) (fn := Try.f114) [(177, impl_Zig.sg), (116, impl_Var.sg)] [] [] Try.func114 (by kernel_rfl) (by kernel_rfl) (by kernel_rfl) h
/-- impl.ShowText -/
def impl_ShowText.sg : Sg := ⟨[(0, [.v])], [(0, [.v])], []⟩
def impl_ShowText.txt (C : Ctx) (a0 : Value) (K : J2) : Prop :=
 prP (lnS a0) fun t4_1 =>
 prP (bnI .gtr t4_1 (.int .i64 8)) fun t5_2 =>
 cndP t5_2 (
 K [(.string { data := #[] })] []) (
 prP (lnS a0) fun t7_3 =>
 cl2 C 116 impl_Var.sg [t7_3] [] fun v4 d5 =>
 prP (bnS .add (nx v4 0) a0) fun t10_7 =>
 K [t10_7] [])
theorem impl_ShowText.cl2 {w0 : World} {a0 : Value} {K : J2} (h : impl_ShowText.txt ⟨Try.prog, w0⟩ a0 K) : Eng.cl2 ⟨Try.prog, w0⟩ 117 impl_ShowText.sg [a0] [] K :=
  cl2_of_run (C := ⟨Try.prog, w0⟩) (f := 117) (fn := Try.f117) [(116, impl_Var.sg)] [] [] Try.func117 (by kernel_rfl) (by kernel_rfl) (by kernel_rfl) h
/-- impl.ShowEvent -/
def impl_ShowEvent.sg : Sg := ⟨[(1, [.v, .t 1 0]), (1, [.v, .v, .v, .v, .v]), (1, [.v, .v, .t 1 0])], [(0, [.v]), (1, [.v, .t 1])], []⟩
def impl_ShowEvent.txt (C : Ctx) (a0 a1 a2 a3 a4 a5 a6 a7 : Value) (c0 c1 : List T) (K : J2) : Prop :=
 cl2 C 103 impl_copyPen.sg [a0] [c0] fun v1 d2 =>
 cl2 C 56 impl_Speakable.sg [a1, a2, a3, a4, a5] [] fun v3 d4 =>
 prP (un .not (nx v3 0)) fun t18_6 =>
 gE t18_6 (
 gP t18_6 false ((fun K => cl2 C 112 impl_answerable.sg [a6, a7] [c1] fun v7 d8 => K (nx v7 0))) fun t21_9 =>
 gP t18_6 false (prP (un .not t21_9)) fun t22_10 =>
 prP (pk t18_6 (.bool true) t22_10) fun t23_11 =>
 gE t23_11 (
 gP t23_11 false ((fun K => cl2 C 113 impl_penOk.sg [a0] [c0] fun v12 d13 => K (nx v12 0))) fun t26_14 =>
 gP t23_11 false (prP (un .not t26_14)) fun t27_15 =>
 prP (pk t23_11 (.bool true) t27_15) fun t28_16 =>
 cndP t28_16 (
 K [(.string { data := #[] }), (nx v1 0)] [(nxc d2 0)]) (
 cl2 C 114 impl_ShowInt.sg [a1] [] fun v17 d18 =>
 prP (bnI .sub a2 a0) fun t37_20 =>
 cl2 C 114 impl_ShowInt.sg [t37_20] [] fun v21 d22 =>
 prP (bnS .add (nx v17 0) (nx v21 0)) fun t39_24 =>
 cl2 C 114 impl_ShowInt.sg [a3] [] fun v25 d26 =>
 prP (bnS .add t39_24 (nx v25 0)) fun t43_28 =>
 prP (bnI .sub a4 a2) fun t48_29 =>
 cl2 C 114 impl_ShowInt.sg [t48_29] [] fun v30 d31 =>
 prP (bnS .add t43_28 (nx v30 0)) fun t50_33 =>
 joinP (fun x35 k36 =>
 cl2 C 116 impl_Var.sg [(nx x35 6)] [] fun v55 d56 =>
 prP (bnI .sub (nx x35 7) (nx x35 2)) fun t88_58 =>
 cl2 C 114 impl_ShowInt.sg [t88_58] [] fun v59 d60 =>
 prP (bnS .add (nx v55 0) (nx v59 0)) fun t90_62 =>
 cl2 C 116 impl_Var.sg [(iv (cnt 1 c1))] [] fun v63 d64 =>
 prP (bnS .add t90_62 (nx v63 0)) fun t95_66 =>
 prP (bnS .add (nx x35 0) t95_66) fun t96_67 =>
 loopP (fun r70 x68 k69 =>
 prP (bnI .lss (nx x68 3) (nx x68 2)) fun t103_72 =>
 cndP t103_72 (
 ixW (cnt 1 c1) (nx x68 3) fun t104_73 =>
 ldc c1 [] ((natOf t104_73) * 1) fun t105_74 =>
 prP (bnI .sub t105_74 (nx x68 1)) fun t109_75 =>
 cl2 C 114 impl_ShowInt.sg [t109_75] [] fun v76 d77 =>
 prP (bnS .add (nx x68 0) (nx v76 0)) fun t111_79 =>
 prP (bnI .add (nx x68 3) (.int .i64 1)) fun t113_80 =>
 r70 [t111_79, t105_74, (nx x68 2), t113_80, (nx x68 4), (nx x68 5)] [(nxc k69 0)]) (
 K [(nx x68 0), (nx x68 5)] [(nxc k69 0)])) [t96_67, (nx x35 2), (iv (cnt 1 c1)), (.int .i64 0), (nx x35 8), (nx x35 9)] [(nxc k36 0)]) fun j37 =>
 cl2 C 115 impl_textAt.sg [a5] [c0] fun v38 d39 =>
 prP (bnI .geq (nx v38 0) (.int .i64 0)) fun t60_41 =>
 cndP t60_41 (
 prP (bnI .add (nx v38 0) (.int .i64 1)) fun t63_42 =>
 cl2 C 116 impl_Var.sg [t63_42] [] fun v43 d44 =>
 prP (bnS .add t50_33 (nx v43 0)) fun t65_46 =>
 j37 [t65_46, a1, a2, a3, a4, a5, a6, a7, (.int .i64 0), a2] [(nxc d2 0)]) (
 cl2 C 116 impl_Var.sg [(.int .i64 0)] [] fun v47 d48 =>
 cl2 C 117 impl_ShowText.sg [a5] [] fun v50 d51 =>
 prP (bnS .add (nx v47 0) (nx v50 0)) fun t71_53 =>
 prP (bnS .add t50_33 t71_53) fun t72_54 =>
 apW [T.c a5] true (cnt 1 (nxc d2 0)) (cnt 1 [T.c a5]) 16 (
 j37 [t72_54, a1, a2, a3, a4, a5, a6, a7, (.int .i64 0), a2] [((nxc d2 0) ++ [T.c a5])])))))
theorem impl_ShowEvent.cl2 {w0 : World} {a0 a1 a2 a3 a4 a5 a6 a7 : Value} {c0 c1 : List T} {K : J2} (h : impl_ShowEvent.txt ⟨Try.prog, w0⟩ a0 a1 a2 a3 a4 a5 a6 a7 c0 c1 K) : Eng.cl2 ⟨Try.prog, w0⟩ 51 impl_ShowEvent.sg [a0, a1, a2, a3, a4, a5, a6, a7] [c0, c1] K :=
  cl2_of_run (C := ⟨Try.prog, w0⟩) (f := 51) (fn := Try.f51) [(103, impl_copyPen.sg), (56, impl_Speakable.sg), (112, impl_answerable.sg), (113, impl_penOk.sg), (114, impl_ShowInt.sg), (115, impl_textAt.sg), (116, impl_Var.sg), (117, impl_ShowText.sg)] [(3, [0, 0, 3]), (4, [0, 1, 3, 0, 8, 0, 32, 120, 255, 511, 0, 1024, 3583, 8191, 0, 16384, 0, 65536, 245760, 515583, 1048575, 2097151]), (9, [0, 0, 0, 4, 14, 30, 63, 127]), (11, [0, 0, 2, 6, 0, 16, 0, 64, 240, 510, 1022, 0, 2048, 6144, 15358, 32766, 65535, 131071]), (19, [0, 0, 1, 7])] [(63, ⟨[.p (.j 0) 0, .p (.j 1) 0, .p (.j 2) 0, .p (.j 3) 0, .v], [], [.bx [.v, .v, .v, .v, .v], .bx [.v, .v, .t (.f 1) 1], .bx [.v, .z], .bx [.v, .t (.j 4) 1], .ls]⟩), (4090, ⟨[.p (.j 0) 0, .p (.j 1) 0, .v, .v, .t (.f 1) 1, .v, .v], [], [.bx [.v, .z], .bx [.v, .t (.j 2) 1], .ls]⟩)] Try.func51 (by kernel_rfl) (by kernel_rfl) (by kernel_rfl) h
/-- laws.eqOp -/
def laws_eqOp.sg : Sg := ⟨[(1, [.v, .v, .v, .v, .v]), (1, [.v, .v, .v, .v, .v])], [(0, [.v])], []⟩
def laws_eqOp.txt (C : Ctx) (a0 a1 a2 a3 a4 a5 a6 a7 a8 a9 : Value) (K : J2) : Prop :=
 prP (bnI .neq a0 a5) fun t9_1 =>
 cndP t9_1 (
 K [(.bool false)] []) (
 prP (bnI .neq a1 a6) fun t14_2 =>
 cndP t14_2 (
 K [(.bool false)] []) (
 prP (bnI .neq a2 a7) fun t19_3 =>
 cndP t19_3 (
 K [(.bool false)] []) (
 prP (bnI .neq a3 a8) fun t24_4 =>
 cndP t24_4 (
 K [(.bool false)] []) (
 prP (bnS .neq a4 a9) fun t29_5 =>
 cndP t29_5 (
 K [(.bool false)] []) (
 K [(.bool true)] [])))))
theorem laws_eqOp.cl2 {w0 : World} {a0 a1 a2 a3 a4 a5 a6 a7 a8 a9 : Value} {K : J2} (h : laws_eqOp.txt ⟨Try.prog, w0⟩ a0 a1 a2 a3 a4 a5 a6 a7 a8 a9 K) : Eng.cl2 ⟨Try.prog, w0⟩ 36 laws_eqOp.sg [a0, a1, a2, a3, a4, a5, a6, a7, a8, a9] [] K :=
  cl2_of_run (C := ⟨Try.prog, w0⟩) (f := 36) (fn := Try.f36) [] [] [] Try.func36 (by kernel_rfl) (by kernel_rfl) (by kernel_rfl) h
/-- laws.eqAnswer -/
def laws_eqAnswer.sg : Sg := ⟨[(1, [.v, .v, .t 1 0]), (1, [.v, .v, .t 1 0])], [(0, [.v])], []⟩
def laws_eqAnswer.txt (C : Ctx) (a0 a1 a2 a3 : Value) (c0 c1 : List T) (K : J2) : Prop :=
 prP (bnI .neq a0 a2) fun t9_1 =>
 cndP t9_1 (
 K [(.bool false)] []) (
 prP (bnI .neq a1 a3) fun t14_2 =>
 cndP t14_2 (
 K [(.bool false)] []) (
 cl2 C 17 laws_eqIntS.sg [] [c0, c1] fun v3 d4 =>
 prP (un .not (nx v3 0)) fun t20_6 =>
 cndP t20_6 (
 K [(.bool false)] []) (
 K [(.bool true)] [])))
theorem laws_eqAnswer.cl2 {w0 : World} {a0 a1 a2 a3 : Value} {c0 c1 : List T} {K : J2} (h : laws_eqAnswer.txt ⟨Try.prog, w0⟩ a0 a1 a2 a3 c0 c1 K) : Eng.cl2 ⟨Try.prog, w0⟩ 37 laws_eqAnswer.sg [a0, a1, a2, a3] [c0, c1] K :=
  cl2_of_run (C := ⟨Try.prog, w0⟩) (f := 37) (fn := Try.f37) [(17, laws_eqIntS.sg)] [] [] Try.func37 (by kernel_rfl) (by kernel_rfl) (by kernel_rfl) h
/-- laws.szPen -/
def laws_szPen.sg : Sg := ⟨[(1, [.v, .t 1 0]), (0, [.v])], [(0, [.v])], []⟩
def laws_szPen.txt (C : Ctx) (a0 a1 : Value) (c0 : List T) (K : J2) : Prop :=
 cl2 C 78 laws_szStringS.sg [a1] [c0] fun v1 d2 =>
 prP (bnI .lss (nx v1 0) (.int .i64 0)) fun t10_4 =>
 cndP t10_4 (
 K [(.int .i64 (-1))] []) (
 K [(nx v1 0)] [])
theorem laws_szPen.cl2 {w0 : World} {a0 a1 : Value} {c0 : List T} {K : J2} (h : laws_szPen.txt ⟨Try.prog, w0⟩ a0 a1 c0 K) : Eng.cl2 ⟨Try.prog, w0⟩ 32 laws_szPen.sg [a0, a1] [c0] K :=
  cl2_of_run (C := ⟨Try.prog, w0⟩) (f := 32) (fn := Try.f32) [(78, laws_szStringS.sg)] [] [] Try.func32 (by kernel_rfl) (by kernel_rfl) (by kernel_rfl) h
/-- laws.toPen -/
def laws_toPen.sg : Sg := ⟨[(1, [.v, .t 1 0])], [(1, [.v, .t 1])], []⟩
def laws_toPen.txt (C : Ctx) (a0 : Value) (c0 : List T) (K : J2) : Prop :=
 cl2 C 83 laws_toStringS.sg [] [c0] fun v1 d2 =>
 K [a0] [(nxc d2 0)]
theorem laws_toPen.cl2 {w0 : World} {a0 : Value} {c0 : List T} {K : J2} (h : laws_toPen.txt ⟨Try.prog, w0⟩ a0 c0 K) : Eng.cl2 ⟨Try.prog, w0⟩ 34 laws_toPen.sg [a0] [c0] K :=
  cl2_of_run (C := ⟨Try.prog, w0⟩) (f := 34) (fn := Try.f34) [(83, laws_toStringS.sg)] [] [] Try.func34 (by kernel_rfl) (by kernel_rfl) (by kernel_rfl) h
/-- spec.ReadVar -/
def spec_ReadVar.sg : Sg := ⟨[(0, [.v])], [(0, [.v]), (0, [.v])], []⟩
def spec_ReadVar.txt (C : Ctx) (a0 : Value) (K : J2) : Prop :=
 loopP (fun r3 x1 k2 =>
 prP (bnI .leq (nx x1 1) (.int .i64 7)) fun t8_5 =>
 gE t8_5 (
 gE t8_5 (
 gP t8_5 true (prP (lnS (nx x1 0))) fun t12_6 =>
 gP t8_5 true (prP (bnI .leq (nx x1 1) t12_6)) fun t13_7 =>
 prP (pk t8_5 t13_7 (.bool false)) fun t14_8 =>
 cndP t14_8 (
 prP (bnI .sub (nx x1 1) (.int .i64 1)) fun t18_9 =>
 loopP (fun r12 x10 k11 =>
 prP (bnI .geq (nx x10 3) (.int .i64 0)) fun t20_14 =>
 cndP t20_14 (
 prP (bnI .mul (nx x10 2) (.int .i64 128)) fun t24_15 =>
 prP (ix (nx x10 0) (nx x10 3)) fun t27_16 =>
 prP (cvI .i64 t27_16) fun t28_17 =>
 prP (bnI .rem t28_17 (.int .i64 128)) fun t29_18 =>
 prP (bnI .add t24_15 t29_18) fun t30_19 =>
 prP (bnI .sub (nx x10 3) (.int .i64 1)) fun t22_20 =>
 r12 [(nx x10 0), (nx x10 1), t30_19, t22_20] []) (
 cl2 C 123 spec_Var.sg [(nx x10 2)] [] fun v21 d22 =>
 prP (scS (nx x10 0) none (some (nx x10 1))) fun t35_24 =>
 prP (bnS .eql (nx v21 0) t35_24) fun t36_25 =>
 cndP t36_25 (
 K [(nx x10 2), (nx x10 1)] []) (
 prP (bnI .add (nx x10 1) (.int .i64 1)) fun t16_26 =>
 r3 [(nx x10 0), t16_26] []))) [(nx x1 0), (nx x1 1), (.int .i64 0), t18_9] []) (
 K [(.int .i64 0), (.int .i64 0)] [])))) [a0, (.int .i64 1)] []
theorem spec_ReadVar.cl2 {w0 : World} {a0 : Value} {K : J2} (h : spec_ReadVar.txt ⟨Try.prog, w0⟩ a0 K) : Eng.cl2 ⟨Try.prog, w0⟩ 99 spec_ReadVar.sg [a0] [] K :=
  cl2_of_run (C := ⟨Try.prog, w0⟩) (f := 99) (fn := Try.f99) [(123, spec_Var.sg)] [(9, [0, 1, 0, 0, 12, 31])] [(6730, ⟨[.v, .v, .v, .v], [], []⟩), (26, ⟨[.v, .v], [], []⟩)] Try.func99 (by kernel_rfl) (by kernel_rfl) (by kernel_rfl) h
/-- spec.Zag -/
def spec_Zag.sg : Sg := ⟨[(0, [.v])], [(0, [.v])], []⟩
def spec_Zag.txt (C : Ctx) (a0 : Value) (K : J2) : Prop :=
 prP (bnI .rem a0 (.int .i64 2)) fun t4_1 =>
 prP (bnI .eql t4_1 (.int .i64 0)) fun t5_2 =>
 cndP t5_2 (
 prP (bnI .quo a0 (.int .i64 2)) fun t7_3 =>
 K [t7_3] []) (
 prP (bnI .quo a0 (.int .i64 2)) fun t9_4 =>
 prP (un .neg t9_4) fun t10_5 =>
 prP (bnI .sub t10_5 (.int .i64 1)) fun t11_6 =>
 K [t11_6] [])
theorem spec_Zag.cl2 {w0 : World} {a0 : Value} {K : J2} (h : spec_Zag.txt ⟨Try.prog, w0⟩ a0 K) : Eng.cl2 ⟨Try.prog, w0⟩ 208 spec_Zag.sg [a0] [] K :=
  cl2_of_run (C := ⟨Try.prog, w0⟩) (f := 208) (fn := Try.f208) [] [] [] Try.func208 (by kernel_rfl) (by kernel_rfl) (by kernel_rfl) h
/-- spec.ReadInt -/
def spec_ReadInt.sg : Sg := ⟨[(0, [.v])], [(0, [.v]), (0, [.v])], []⟩
def spec_ReadInt.txt (C : Ctx) (a0 : Value) (K : J2) : Prop :=
 cl2 C 99 spec_ReadVar.sg [a0] [] fun v1 d2 =>
 prP (bnI .eql (nx v1 1) (.int .i64 0)) fun t12_3 =>
 gE t12_3 (
 gP t12_3 false ((fun K => cl2 C 208 spec_Zag.sg [(nx v1 0)] [] fun v4 d5 => K (nx v4 0))) fun t15_6 =>
 gP t12_3 false ((fun K => cl2 C 122 spec_ShowInt.sg [t15_6] [] fun v7 d8 => K (nx v7 0))) fun t16_9 =>
 gE t12_3 (
 gE t12_3 (
 gP t12_3 false (prP (scS a0 none (some (nx v1 1)))) fun t19_10 =>
 gP t12_3 false (prP (bnS .neq t16_9 t19_10)) fun t20_11 =>
 prP (pk t12_3 (.bool true) t20_11) fun t21_12 =>
 cndP t21_12 (
 K [(.int .i64 0), (.int .i64 0)] []) (
 cl2 C 208 spec_Zag.sg [(nx v1 0)] [] fun v13 d14 =>
 K [(nx v13 0), (nx v1 1)] []))))
theorem spec_ReadInt.cl2 {w0 : World} {a0 : Value} {K : J2} (h : spec_ReadInt.txt ⟨Try.prog, w0⟩ a0 K) : Eng.cl2 ⟨Try.prog, w0⟩ 163 spec_ReadInt.sg [a0] [] K :=
  cl2_of_run (C := ⟨Try.prog, w0⟩) (f := 163) (fn := Try.f163) [(99, spec_ReadVar.sg), (208, spec_Zag.sg), (122, spec_ShowInt.sg)] [(2, [0, 1, 3, 7, 15, 31, 7, 7, 199, 511, 1023])] [] Try.func163 (by kernel_rfl) (by kernel_rfl) (by kernel_rfl) h
/-- spec.l10Ints -/
def spec_l10Ints.sg : Sg := ⟨[(0, [.v]), (0, [.v]), (0, [.v])], [(0, [.t 1]), (0, [.v])], []⟩
def spec_l10Ints.txt (C : Ctx) (a0 a1 a2 : Value) (K : J2) : Prop :=
 loopP (fun r3 x1 k2 =>
 prP (bnI .lss (nx x1 3) (nx x1 2)) fun t15_5 =>
 cndP t15_5 (
 prP (scS (nx x1 0) (some (nx x1 1)) none) fun t21_6 =>
 cl2 C 163 spec_ReadInt.sg [t21_6] [] fun v7 d8 =>
 prP (bnI .eql (nx v7 1) (.int .i64 0)) fun t26_9 =>
 cndP t26_9 (
 mkW 8 (nx x1 2) (nx x1 2) fun n10 =>
 K [(.int .i64 (-1))] [(repT (natOf n10) [T.c (.int .i64 0)])]) (
 apW [T.c (nx v7 0)] true (cnt 1 (nxc k2 0)) (cnt 1 [T.c (nx v7 0)]) 8 (
 prP (bnI .add (nx x1 1) (nx v7 1)) fun t35_11 =>
 prP (bnI .add (nx x1 3) (.int .i64 1)) fun t17_12 =>
 r3 [(nx x1 0), t35_11, (nx x1 2), t17_12] [((nxc k2 0) ++ [T.c (nx v7 0)])]))) (
 K [(nx x1 1)] [(nxc k2 0)])) [a0, a1, a2, (.int .i64 0)] [[]]
theorem spec_l10Ints.cl2 {w0 : World} {a0 a1 a2 : Value} {K : J2} (h : spec_l10Ints.txt ⟨Try.prog, w0⟩ a0 a1 a2 K) : Eng.cl2 ⟨Try.prog, w0⟩ 97 spec_l10Ints.sg [a0, a1, a2] [] K :=
  cl2_of_run (C := ⟨Try.prog, w0⟩) (f := 97) (fn := Try.f97) [(163, spec_ReadInt.sg)] [] [(58, ⟨[.v, .v, .v, .t (.j 0) 1, .v], [], [.ls]⟩)] Try.func97 (by kernel_rfl) (by kernel_rfl) (by kernel_rfl) h
/-- spec.ReadText -/
def spec_ReadText.sg : Sg := ⟨[(0, [.v])], [(0, [.v]), (0, [.v])], []⟩
def spec_ReadText.txt (C : Ctx) (a0 : Value) (K : J2) : Prop :=
 cl2 C 99 spec_ReadVar.sg [a0] [] fun v1 d2 =>
 prP (bnI .eql (nx v1 1) (.int .i64 0)) fun t12_3 =>
 gE t12_3 (
 gP t12_3 false (prP (bnI .gtr (nx v1 0) (.int .i64 8))) fun t15_4 =>
 prP (pk t12_3 (.bool true) t15_4) fun t16_5 =>
 gE t16_5 (
 gE t16_5 (
 gP t16_5 false (prP (lnS a0)) fun t20_6 =>
 gE t16_5 (
 gP t16_5 false (prP (bnI .sub t20_6 (nx v1 1))) fun t22_7 =>
 gP t16_5 false (prP (bnI .gtr (nx v1 0) t22_7)) fun t23_8 =>
 prP (pk t16_5 (.bool true) t23_8) fun t24_9 =>
 cndP t24_9 (
 K [(.string { data := #[] }), (.int .i64 0)] []) (
 prP (bnI .add (nx v1 1) (nx v1 0)) fun t29_10 =>
 prP (scS a0 (some (nx v1 1)) (some t29_10)) fun t30_11 =>
 prP (bnI .add (nx v1 1) (nx v1 0)) fun t33_12 =>
 K [t30_11, t33_12] [])))))
theorem spec_ReadText.cl2 {w0 : World} {a0 : Value} {K : J2} (h : spec_ReadText.txt ⟨Try.prog, w0⟩ a0 K) : Eng.cl2 ⟨Try.prog, w0⟩ 164 spec_ReadText.sg [a0] [] K :=
  cl2_of_run (C := ⟨Try.prog, w0⟩) (f := 164) (fn := Try.f164) [(99, spec_ReadVar.sg)] [] [] Try.func164 (by kernel_rfl) (by kernel_rfl) (by kernel_rfl) h
/-- spec.l10Name -/
def spec_l10Name.sg : Sg := ⟨[(1, [.v, .t 1 0]), (0, [.v]), (0, [.v])], [(0, [.v]), (0, [.v])], []⟩
def spec_l10Name.txt (C : Ctx) (a0 a1 a2 : Value) (c0 : List T) (K : J2) : Prop :=
 prP (scS a1 (some a2) none) fun t15_1 =>
 cl2 C 99 spec_ReadVar.sg [t15_1] [] fun v2 d3 =>
 prP (bnI .eql (nx v2 1) (.int .i64 0)) fun t20_4 =>
 gE t20_4 (
 gE t20_4 (
 gE t20_4 (
 gE t20_4 (
 gP t20_4 false (prP (bnI .gtr (nx v2 0) (iv (cnt 1 c0)))) fun t26_5 =>
 prP (pk t20_4 (.bool true) t26_5) fun t27_6 =>
 cndP t27_6 (
 K [(.string { data := #[] }), (.int .i64 (-1))] []) (
 prP (bnI .gtr (nx v2 0) (.int .i64 0)) fun t29_7 =>
 cndP t29_7 (
 prP (bnI .sub (nx v2 0) (.int .i64 1)) fun t33_8 =>
 ixW (cnt 1 c0) t33_8 fun t34_9 =>
 ldc c0 [] ((natOf t34_9) * 1) fun t35_10 =>
 prP (bnI .add a2 (nx v2 1)) fun t38_11 =>
 K [t35_10, t38_11] []) (
 prP (bnI .add a2 (nx v2 1)) fun t43_12 =>
 prP (scS a1 (some t43_12) none) fun t44_13 =>
 cl2 C 164 spec_ReadText.sg [t44_13] [] fun v14 d15 =>
 prP (bnI .eql (nx v14 1) (.int .i64 0)) fun t49_16 =>
 cndP t49_16 (
 K [(.string { data := #[] }), (.int .i64 (-1))] []) (
 prP (bnI .add a2 (nx v2 1)) fun t53_17 =>
 prP (bnI .add t53_17 (nx v14 1)) fun t55_18 =>
 K [(nx v14 0), t55_18] [])))))))
theorem spec_l10Name.cl2 {w0 : World} {a0 a1 a2 : Value} {c0 : List T} {K : J2} (h : spec_l10Name.txt ⟨Try.prog, w0⟩ a0 a1 a2 c0 K) : Eng.cl2 ⟨Try.prog, w0⟩ 98 spec_l10Name.sg [a0, a1, a2] [c0] K :=
  cl2_of_run (C := ⟨Try.prog, w0⟩) (f := 98) (fn := Try.f98) [(99, spec_ReadVar.sg), (164, spec_ReadText.sg)] [] [] Try.func98 (by kernel_rfl) (by kernel_rfl) (by kernel_rfl) h
end Go.Proofs.Ytnhicpkhkaihoaa.P
