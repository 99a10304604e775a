/- The functions of the code as the pure engine's texts, printed by my program gen2.py: each with its call. -/
import Derived.Test.YtnhicpkhkaihoaaChecked
import Derived.Test.YtnhicpkhkaihoaaCfPZ1
import Derived.KernelRfl
namespace Go.Proofs.Ytnhicpkhkaihoaa.P
open Go Go.Proofs.Ytnhicpkhkaihoaa Go.Proofs.Ytnhicpkhkaihoaa.Eng
set_option linter.unusedVariables false
set_option maxRecDepth 100000
/-- spec.ReadEvent -/
def spec_ReadEvent.sg : Sg := ⟨[(1, [.v, .t 1 0]), (0, [.v])], [(1, [.v, .v, .v, .v, .v]), (1, [.v, .v, .t 1]), (1, [.v, .t 1]), (0, [.v])], []⟩
def spec_ReadEvent.txt (C : Ctx) (a0 a1 : Value) (c0 : List T) (K : J2) : Prop :=
 apW c0 true (cnt 1 []) (cnt 1 c0) 16 (
 cl2 C 97 spec_l10Ints.sg [a1, (.int .i64 0), (.int .i64 4)] [] fun v1 d2 =>
 prP (bnI .lss (nx v1 0) (.int .i64 0)) fun t39_3 =>
 cndP t39_3 (
 K [(.int .i64 0), (.int .i64 0), (.int .i64 0), (.int .i64 0), (.string { data := #[] }), (.int .i64 0), (.int .i64 0), a0, (.bool false)] [[], ([] ++ c0)]) (
 ixW (cnt 1 (nxc d2 0)) (.int .i64 0) fun t44_4 =>
 ldc (nxc d2 0) [] ((natOf t44_4) * 1) fun t45_5 =>
 ixW (cnt 1 (nxc d2 0)) (.int .i64 1) fun t47_6 =>
 ldc (nxc d2 0) [] ((natOf t47_6) * 1) fun t48_7 =>
 prP (bnI .add t48_7 a0) fun t51_8 =>
 ixW (cnt 1 (nxc d2 0)) (.int .i64 2) fun t53_9 =>
 ldc (nxc d2 0) [] ((natOf t53_9) * 1) fun t54_10 =>
 ixW (cnt 1 (nxc d2 0)) (.int .i64 3) fun t57_11 =>
 ldc (nxc d2 0) [] ((natOf t57_11) * 1) fun t58_12 =>
 prP (bnI .add t58_12 t51_8) fun t61_13 =>
 cl2 C 98 spec_l10Name.sg [a0, a1, (nx v1 0)] [c0] fun v14 d15 =>
 prP (bnI .lss (nx v14 1) (.int .i64 0)) fun t71_16 =>
 cndP t71_16 (
 K [(.int .i64 0), (.int .i64 0), (.int .i64 0), (.int .i64 0), (.string { data := #[] }), (.int .i64 0), (.int .i64 0), a0, (.bool false)] [[], ([] ++ c0)]) (
 prP (scS a1 (some (nx v14 1)) none) fun t80_17 =>
 cl2 C 99 spec_ReadVar.sg [t80_17] [] fun v18 d19 =>
 prP (bnI .add (nx v14 1) (nx v18 1)) fun t88_20 =>
 cl2 C 97 spec_l10Ints.sg [a1, t88_20, (.int .i64 1)] [] fun v21 d22 =>
 prP (bnI .eql (nx v18 1) (.int .i64 0)) fun t93_23 =>
 gE t93_23 (
 gP t93_23 false (prP (bnI .lss (nx v21 0) (.int .i64 0))) fun t96_24 =>
 prP (pk t93_23 (.bool true) t96_24) fun t97_25 =>
 cndP t97_25 (
 K [(.int .i64 0), (.int .i64 0), (.int .i64 0), (.int .i64 0), (.string { data := #[] }), (.int .i64 0), (.int .i64 0), a0, (.bool false)] [[], ([] ++ c0)]) (
 prP (scS a1 (some (nx v21 0)) none) fun t104_26 =>
 cl2 C 99 spec_ReadVar.sg [t104_26] [] fun v27 d28 =>
 prP (bnI .eql (nx v27 1) (.int .i64 0)) fun t109_29 =>
 gE t109_29 (
 gP t109_29 false (prP (bnI .gtr (nx v27 0) (.int .i64 8))) fun t112_30 =>
 prP (pk t109_29 (.bool true) t112_30) fun t113_31 =>
 cndP t113_31 (
 K [(.int .i64 0), (.int .i64 0), (.int .i64 0), (.int .i64 0), (.string { data := #[] }), (.int .i64 0), (.int .i64 0), a0, (.bool false)] [[], ([] ++ c0)]) (
 ixW (cnt 1 (nxc d22 0)) (.int .i64 0) fun t119_32 =>
 ldc (nxc d22 0) [] ((natOf t119_32) * 1) fun t120_33 =>
 prP (bnI .add t120_33 t51_8) fun t123_34 =>
 prP (bnI .add (nx v21 0) (nx v27 1)) fun t129_35 =>
 cl2 C 97 spec_l10Ints.sg [a1, t129_35, (nx v27 0)] [] fun v36 d37 =>
 loopP (fun r40 x38 k39 =>
 prP (bnI .lss (nx x38 3) (iv (cnt 1 (nxc k39 0)))) fun t139_55 =>
 cndP t139_55 (
 ixW (cnt 1 (nxc k39 0)) (nx x38 3) fun t145_56 =>
 ldc (nxc k39 0) [] ((natOf t145_56) * 1) fun t146_57 =>
 prP (bnI .add (nx x38 2) t146_57) fun t147_58 =>
 apW [T.c t147_58] true (cnt 1 (nxc k39 2)) (cnt 1 [T.c t147_58]) 8 (
 prP (bnI .add (nx x38 3) (.int .i64 1)) fun t141_59 =>
 r40 [(nx x38 0), (nx x38 1), t147_58, t141_59, (nx x38 4), (nx x38 5), (nx x38 6), (nx x38 7), (nx x38 8), (nx x38 9), (nx x38 10), (nx x38 11), (nx x38 12), (nx x38 13), (nx x38 14), (nx x38 15), (nx x38 16), (nx x38 17), (nx x38 18), (nx x38 19), (nx x38 20)] [(nxc k39 0), (nxc k39 1), ((nxc k39 2) ++ [T.c t147_58])])) (
 cl2 C 52 spec_ShowEvent.sg [(nx x38 4), (nx x38 14), (nx x38 15), (nx x38 16), (nx x38 17), (nx x38 18), (nx x38 19), (nx x38 20)] [c0, (nxc k39 2)] fun v60 d61 =>
 prP (bnI .lss (nx x38 1) (.int .i64 0)) fun t162_62 =>
 gE t162_62 (
 gE t162_62 (
 gP t162_62 false (prP (bnS .neq (nx v60 0) (nx x38 0))) fun t166_63 =>
 prP (pk t162_62 (.bool true) t166_63) fun t167_64 =>
 gE t167_64 (
 gP t167_64 false (prP (bnS .eql (nx x38 0) (.string { data := #[] }))) fun t170_65 =>
 prP (pk t167_64 (.bool true) t170_65) fun t171_66 =>
 cndP t171_66 (
 K [(.int .i64 0), (.int .i64 0), (.int .i64 0), (.int .i64 0), (.string { data := #[] }), (.int .i64 0), (.int .i64 0), (nx x38 13), (.bool false)] [[], (nxc k39 1)]) (
 K [(nx x38 14), (nx x38 15), (nx x38 16), (nx x38 17), (nx x38 18), (nx x38 19), (nx x38 20), (nx v60 1), (.bool true)] [(nxc k39 2), (nxc d61 0)])))))) [a1, (nx v36 0), t51_8, (.int .i64 0), a0, (.int .i64 0), (.int .i64 0), (.int .i64 0), (.int .i64 0), (.string { data := #[] }), (.int .i64 0), (.int .i64 0), (.int .i64 0), a0, t45_5, t51_8, t54_10, t61_13, (nx v14 0), (nx v18 0), t123_34] [(nxc d37 0), ([] ++ c0), []])))))))
theorem spec_ReadEvent.cl2 {w0 : World} {a0 a1 : Value} {c0 : List T} {K : J2} (h : spec_ReadEvent.txt ⟨Try.prog, w0⟩ a0 a1 c0 K) : Eng.cl2 ⟨Try.prog, w0⟩ 33 spec_ReadEvent.sg [a0, a1] [c0] K :=
  cl2_of_run (C := ⟨Try.prog, w0⟩) (f := 33) (fn := Try.f33) [(97, spec_l10Ints.sg), (98, spec_l10Name.sg), (99, spec_ReadVar.sg), (52, spec_ShowEvent.sg)] [(1, [0, 1, 0, 0, 8, 28, 63, 0, 255]), (4, [0, 0, 0, 1, 11, 31, 63]), (5, [0, 1, 3, 0, 8, 24, 0, 64, 248, 0, 512, 1536, 4095, 0, 16383]), (6, [0, 1, 3, 0, 8, 31, 63, 127]), (9, [0, 0, 0, 1, 11, 31, 63]), (14, [0, 0, 0, 1, 11, 31, 63]), (17, [0, 0, 0, 1, 11, 31, 63]), (18, [0, 0, 2, 6, 0, 16, 62, 127, 0, 511]), (28, [0, 0, 0, 1, 11, 31, 63]), (29, [0, 0, 0, 1, 11, 31, 63])] [(2097146, ⟨[.v, .p (.j 0) 0, .p (.j 1) 0, .p (.j 2) 0, .p (.j 3) 0, .p (.j 4) 0, .p (.j 5) 0, .p (.j 6) 0, .t (.j 7) 1, .v, .v, .v], [], [.bx [.v, .t (.f 0) 1], .bx [.v, .v, .v, .v, .v], .bx [.v, .v, .z], .bx [.v, .z], .bx [.v, .t (.j 8) 1], .bx [.v, .v, .v, .v, .v], .bx [.v, .v, .t (.j 9) 1], .ls, .ls, .ls]⟩)] Try.func33 (by kernel_rfl) (by kernel_rfl) (by kernel_rfl) h
/-- impl.ReadVar -/
def impl_ReadVar.sg : Sg := ⟨[(0, [.v])], [(0, [.v]), (0, [.v])], []⟩
def impl_ReadVar.txt (C : Ctx) (a0 : Value) (K : J2) : Prop :=
 loopP (fun r3 x1 k2 =>
 prP (bnI .lss (nx x1 2) (.int .i64 7)) fun t8_5 =>
 gE t8_5 (
 gE t8_5 (
 gP t8_5 true (prP (lnS (nx x1 0))) fun t12_6 =>
 gP t8_5 true (prP (bnI .lss (nx x1 2) t12_6)) fun t13_7 =>
 prP (pk t8_5 t13_7 (.bool false)) fun t14_8 =>
 cndP t14_8 (
 prP (ix (nx x1 0) (nx x1 2)) fun t19_9 =>
 prP (cvI .i64 t19_9) fun t20_10 =>
 prP (bnI .rem t20_10 (.int .i64 128)) fun t23_11 =>
 prP (bnI .mul (.int .i64 7) (nx x1 2)) fun t25_12 =>
 prP (bnI .shl t23_11 t25_12) fun t26_13 =>
 prP (bnI .add (nx x1 1) t26_13) fun t27_14 =>
 prP (bnI .geq t20_10 (.int .i64 128)) fun t29_15 =>
 cndP t29_15 (
 prP (bnI .add (nx x1 2) (.int .i64 1)) fun t16_16 =>
 r3 [(nx x1 0), t27_14, t16_16] []) (
 prP (bnI .eql t20_10 (.int .i64 0)) fun t31_17 =>
 gE t31_17 (
 gP t31_17 true (prP (bnI .gtr (nx x1 2) (.int .i64 0))) fun t34_18 =>
 prP (pk t31_17 t34_18 (.bool false)) fun t35_19 =>
 cndP t35_19 (
 K [(.int .i64 0), (.int .i64 0)] []) (
 prP (bnI .add (nx x1 2) (.int .i64 1)) fun t38_20 =>
 K [t27_14, t38_20] [])))) (
 K [(.int .i64 0), (.int .i64 0)] [])))) [a0, (.int .i64 0), (.int .i64 0)] []
theorem impl_ReadVar.cl2 {w0 : World} {a0 : Value} {K : J2} (h : impl_ReadVar.txt ⟨Try.prog, w0⟩ a0 K) : Eng.cl2 ⟨Try.prog, w0⟩ 167 impl_ReadVar.sg [a0] [] K :=
  cl2_of_run (C := ⟨Try.prog, w0⟩) (f := 167) (fn := Try.f167) [] [] [(58, ⟨[.v, .v, .v], [], []⟩)] Try.func167 (by kernel_rfl) (by kernel_rfl) (by kernel_rfl) h
/-- impl.Zag -/
def impl_Zag.sg : Sg := ⟨[(0, [.v])], [(0, [.v])], []⟩
def impl_Zag.txt (C : Ctx) (a0 : Value) (K : J2) : Prop :=
 prP (bnI .rem a0 (.int .i64 2)) fun t4_1 =>
 prP (bnI .eql t4_1 (.int .i64 0)) fun t5_2 =>
 cndP t5_2 (
 prP (bnI .quo a0 (.int .i64 2)) fun t7_3 =>
 K [t7_3] []) (
 prP (bnI .quo a0 (.int .i64 2)) fun t9_4 =>
 prP (un .neg t9_4) fun t10_5 =>
 prP (bnI .sub t10_5 (.int .i64 1)) fun t11_6 =>
 K [t11_6] [])
theorem impl_Zag.cl2 {w0 : World} {a0 : Value} {K : J2} (h : impl_Zag.txt ⟨Try.prog, w0⟩ a0 K) : Eng.cl2 ⟨Try.prog, w0⟩ 209 impl_Zag.sg [a0] [] K :=
  cl2_of_run (C := ⟨Try.prog, w0⟩) (f := 209) (fn := Try.f209) [] [] [] Try.func209 (by kernel_rfl) (by kernel_rfl) (by kernel_rfl) h
/-- impl.ReadInt -/
def impl_ReadInt.sg : Sg := ⟨[(0, [.v])], [(0, [.v]), (0, [.v])], []⟩
def impl_ReadInt.txt (C : Ctx) (a0 : Value) (K : J2) : Prop :=
 cl2 C 167 impl_ReadVar.sg [a0] [] fun v1 d2 =>
 prP (bnI .eql (nx v1 1) (.int .i64 0)) fun t12_3 =>
 gE t12_3 (
 gP t12_3 false (prP (bnI .gtr (nx v1 0) (.int .i64 200000000000000))) fun t15_4 =>
 prP (pk t12_3 (.bool true) t15_4) fun t16_5 =>
 cndP t16_5 (
 K [(.int .i64 0), (.int .i64 0)] []) (
 cl2 C 209 impl_Zag.sg [(nx v1 0)] [] fun v6 d7 =>
 K [(nx v6 0), (nx v1 1)] []))
theorem impl_ReadInt.cl2 {w0 : World} {a0 : Value} {K : J2} (h : impl_ReadInt.txt ⟨Try.prog, w0⟩ a0 K) : Eng.cl2 ⟨Try.prog, w0⟩ 165 impl_ReadInt.sg [a0] [] K :=
  cl2_of_run (C := ⟨Try.prog, w0⟩) (f := 165) (fn := Try.f165) [(167, impl_ReadVar.sg), (209, impl_Zag.sg)] [] [] Try.func165 (by kernel_rfl) (by kernel_rfl) (by kernel_rfl) h
/-- impl.eventReader).took -/
def impl_eventReader_took.sg : Sg := ⟨[(2, [.v, .v]), (0, [.v])], [], [[.v, .v]]⟩
def impl_eventReader_took.txt (C : Ctx) (a0 a1 a2 : Value) (K : J2) : Prop :=
 joinP (fun x2 k3 =>
 prP (scS (nx x2 1) (some (nx x2 0)) none) fun t15_6 =>
 K [t15_6, (nx x2 2)] []) fun j4 =>
 prP (bnI .eql a2 (.int .i64 0)) fun t5_5 =>
 cndP t5_5 (
 j4 [a2, a0, (.bool true)] []) (
 j4 [a2, a0, a1] [])
theorem impl_eventReader_took.cl2 {w0 : World} {a0 a1 a2 : Value} {K : J2} (h : impl_eventReader_took.txt ⟨Try.prog, w0⟩ a0 a1 a2 K) : Eng.cl2 ⟨Try.prog, w0⟩ 166 impl_eventReader_took.sg [a0, a1, a2] [] K :=
  cl2_of_run (C := ⟨Try.prog, w0⟩) (f := 166) (fn := Try.f166) [] [] [(1, ⟨[.p (.j 0) 0, .v], [.p (.j 0) 0], [.bx [.v, .v]]⟩)] Try.func166 (by kernel_rfl) (by kernel_rfl) (by kernel_rfl) h
/-- impl.eventReader).signed -/
def impl_eventReader_signed.sg : Sg := ⟨[(2, [.v, .v])], [(0, [.v])], [[.v, .v]]⟩
def impl_eventReader_signed.txt (C : Ctx) (a0 a1 : Value) (K : J2) : Prop :=
 cl2 C 165 impl_ReadInt.sg [a0] [] fun v1 d2 =>
 cl2 C 166 impl_eventReader_took.sg [a0, a1, (nx v1 1)] [] fun v3 d4 =>
 K [(nx v1 0), (nx v3 0), (nx v3 1)] []
theorem impl_eventReader_signed.cl2 {w0 : World} {a0 a1 : Value} {K : J2} (h : impl_eventReader_signed.txt ⟨Try.prog, w0⟩ a0 a1 K) : Eng.cl2 ⟨Try.prog, w0⟩ 100 impl_eventReader_signed.sg [a0, a1] [] K :=
  cl2_of_run (C := ⟨Try.prog, w0⟩) (f := 100) (fn := Try.f100) [(165, impl_ReadInt.sg), (166, impl_eventReader_took.sg)] [] [] Try.func100 (by kernel_rfl) (by kernel_rfl) (by kernel_rfl) h
/-- impl.eventReader).num -/
def impl_eventReader_num.sg : Sg := ⟨[(2, [.v, .v])], [(0, [.v])], [[.v, .v]]⟩
def impl_eventReader_num.txt (C : Ctx) (a0 a1 : Value) (K : J2) : Prop :=
 cl2 C 167 impl_ReadVar.sg [a0] [] fun v1 d2 =>
 cl2 C 166 impl_eventReader_took.sg [a0, a1, (nx v1 1)] [] fun v3 d4 =>
 K [(nx v1 0), (nx v3 0), (nx v3 1)] []
theorem impl_eventReader_num.cl2 {w0 : World} {a0 a1 : Value} {K : J2} (h : impl_eventReader_num.txt ⟨Try.prog, w0⟩ a0 a1 K) : Eng.cl2 ⟨Try.prog, w0⟩ 101 impl_eventReader_num.sg [a0, a1] [] K :=
  cl2_of_run (C := ⟨Try.prog, w0⟩) (f := 101) (fn := Try.f101) [(167, impl_ReadVar.sg), (166, impl_eventReader_took.sg)] [] [] Try.func101 (by kernel_rfl) (by kernel_rfl) (by kernel_rfl) h
/-- impl.ReadText -/
def impl_ReadText.sg : Sg := ⟨[(0, [.v])], [(0, [.v]), (0, [.v])], []⟩
def impl_ReadText.txt (C : Ctx) (a0 : Value) (K : J2) : Prop :=
 cl2 C 167 impl_ReadVar.sg [a0] [] fun v1 d2 =>
 prP (bnI .eql (nx v1 1) (.int .i64 0)) fun t12_3 =>
 gE t12_3 (
 gP t12_3 false (prP (bnI .gtr (nx v1 0) (.int .i64 8))) fun t15_4 =>
 prP (pk t12_3 (.bool true) t15_4) fun t16_5 =>
 gE t16_5 (
 gE t16_5 (
 gP t16_5 false (prP (lnS a0)) fun t20_6 =>
 gE t16_5 (
 gP t16_5 false (prP (bnI .sub t20_6 (nx v1 1))) fun t22_7 =>
 gP t16_5 false (prP (bnI .gtr (nx v1 0) t22_7)) fun t23_8 =>
 prP (pk t16_5 (.bool true) t23_8) fun t24_9 =>
 cndP t24_9 (
 K [(.string { data := #[] }), (.int .i64 0)] []) (
 prP (bnI .add (nx v1 1) (nx v1 0)) fun t29_10 =>
 prP (scS a0 (some (nx v1 1)) (some t29_10)) fun t30_11 =>
 prP (bnI .add (nx v1 1) (nx v1 0)) fun t33_12 =>
 K [t30_11, t33_12] [])))))
theorem impl_ReadText.cl2 {w0 : World} {a0 : Value} {K : J2} (h : impl_ReadText.txt ⟨Try.prog, w0⟩ a0 K) : Eng.cl2 ⟨Try.prog, w0⟩ 168 impl_ReadText.sg [a0] [] K :=
  cl2_of_run (C := ⟨Try.prog, w0⟩) (f := 168) (fn := Try.f168) [(167, impl_ReadVar.sg)] [] [] Try.func168 (by kernel_rfl) (by kernel_rfl) (by kernel_rfl) h
/-- impl.eventReader).text -/
def impl_eventReader_text.sg : Sg := ⟨[(2, [.v, .v])], [(0, [.v])], [[.v, .v]]⟩
def impl_eventReader_text.txt (C : Ctx) (a0 a1 : Value) (K : J2) : Prop :=
 cl2 C 168 impl_ReadText.sg [a0] [] fun v1 d2 =>
 cl2 C 166 impl_eventReader_took.sg [a0, a1, (nx v1 1)] [] fun v3 d4 =>
 K [(nx v1 0), (nx v3 0), (nx v3 1)] []
theorem impl_eventReader_text.cl2 {w0 : World} {a0 a1 : Value} {K : J2} (h : impl_eventReader_text.txt ⟨Try.prog, w0⟩ a0 a1 K) : Eng.cl2 ⟨Try.prog, w0⟩ 102 impl_eventReader_text.sg [a0, a1] [] K :=
  cl2_of_run (C := ⟨Try.prog, w0⟩) (f := 102) (fn := Try.f102) [(168, impl_ReadText.sg), (166, impl_eventReader_took.sg)] [] [] Try.func102 (by kernel_rfl) (by kernel_rfl) (by kernel_rfl) h
/-- impl.ReadEvent -/
def impl_ReadEvent.sg : Sg := ⟨[(1, [.v, .t 1 0]), (0, [.v])], [(1, [.v, .v, .v, .v, .v]), (1, [.v, .v, .t 1]), (1, [.v, .t 1]), (0, [.v])], []⟩
def impl_ReadEvent.txt (C : Ctx) (a0 a1 : Value) (c0 : List T) (K : J2) : Prop :=
 cl2 C 100 impl_eventReader_signed.sg [a1, (.bool false)] [] fun v1 d2 =>
 cl2 C 100 impl_eventReader_signed.sg [(nx v1 1), (nx v1 2)] [] fun v3 d4 =>
 prP (bnI .add a0 (nx v3 0)) fun t27_5 =>
 cl2 C 100 impl_eventReader_signed.sg [(nx v3 1), (nx v3 2)] [] fun v6 d7 =>
 cl2 C 100 impl_eventReader_signed.sg [(nx v6 1), (nx v6 2)] [] fun v8 d9 =>
 prP (bnI .add t27_5 (nx v8 0)) fun t36_10 =>
 cl2 C 101 impl_eventReader_num.sg [(nx v8 1), (nx v8 2)] [] fun v11 d12 =>
 joinP (fun x14 k15 =>
 cl2 C 101 impl_eventReader_num.sg [(nx x14 10), (nx x14 11)] [] fun v24 d25 =>
 cl2 C 100 impl_eventReader_signed.sg [(nx v24 1), (nx v24 2)] [] fun v26 d27 =>
 prP (bnI .add (nx x14 13) (nx v26 0)) fun t69_28 =>
 cl2 C 101 impl_eventReader_num.sg [(nx v26 1), (nx v26 2)] [] fun v29 d30 =>
 loopP (fun r33 x31 k32 =>
 prP (bnI .lss (nx x31 3) (nx x31 1)) fun t77_51 =>
 gE t77_51 (
 gE t77_51 (
 gE t77_51 (
 gE t77_51 (
 gP t77_51 true (prP (un .not (nx x31 14))) fun t83_52 =>
 prP (pk t77_51 t83_52 (.bool false)) fun t84_53 =>
 cndP t84_53 (
 cl2 C 100 impl_eventReader_signed.sg [(nx x31 13), (nx x31 14)] [] fun v54 d55 =>
 prP (bnI .add (nx x31 2) (nx v54 0)) fun t90_56 =>
 apW [T.c t90_56] true (cnt 1 (nxc k32 0)) (cnt 1 [T.c t90_56]) 8 (
 prP (bnI .add (nx x31 3) (.int .i64 1)) fun t86_57 =>
 r33 [(nx x31 0), (nx x31 1), t90_56, t86_57, (nx x31 4), (nx x31 5), (nx x31 6), (nx x31 7), (nx x31 8), (nx x31 9), (nx x31 10), (nx x31 11), (nx x31 12), (nx v54 1), (nx v54 2), (nx x31 15), (nx x31 16), (nx x31 17), (nx x31 18), (nx x31 19), (nx x31 20), (nx x31 21)] [((nxc k32 0) ++ [T.c t90_56])])) (
 cl2 C 51 impl_ShowEvent.sg [(nx x31 4), (nx x31 15), (nx x31 16), (nx x31 17), (nx x31 18), (nx x31 19), (nx x31 20), (nx x31 21)] [c0, (nxc k32 0)] fun v58 d59 =>
 gE (nx x31 14) (
 gP (nx x31 14) false (prP (bnS .eql (nx v58 0) (.string { data := #[] }))) fun t110_60 =>
 prP (pk (nx x31 14) (.bool true) t110_60) fun t111_61 =>
 gE t111_61 (
 gE t111_61 (
 gP t111_61 false (prP (bnS .neq (nx v58 0) (nx x31 0))) fun t115_62 =>
 prP (pk t111_61 (.bool true) t115_62) fun t116_63 =>
 cndP t116_63 (
 cl2 C 103 impl_copyPen.sg [(nx x31 4)] [c0] fun v64 d65 =>
 K [(.int .i64 0), (.int .i64 0), (.int .i64 0), (.int .i64 0), (.string { data := #[] }), (.int .i64 0), (.int .i64 0), (nx v64 0), (.bool false)] [[], (nxc d65 0)]) (
 K [(nx x31 15), (nx x31 16), (nx x31 17), (nx x31 18), (nx x31 19), (nx x31 20), (nx x31 21), (nx v58 1), (.bool true)] [(nxc k32 0), (nxc d59 0)])))))))))) [(nx x14 0), (nx v29 0), (nx x14 13), (.int .i64 0), (nx x14 1), (nx x14 2), (nx x14 3), (nx x14 4), (nx x14 5), (nx x14 6), (nx x14 7), (nx x14 8), (nx x14 9), (nx v29 1), (nx v29 2), (nx x14 12), (nx x14 13), (nx x14 14), (nx x14 15), (nx x14 16), (nx v24 0), t69_28] [[]]) fun j16 =>
 prP (bnI .eql (nx v11 0) (.int .i64 0)) fun t45_17 =>
 cndP t45_17 (
 cl2 C 102 impl_eventReader_text.sg [(nx v11 1), (nx v11 2)] [] fun v18 d19 =>
 j16 [a1, a0, (.int .i64 0), (.int .i64 0), (.int .i64 0), (.int .i64 0), (.string { data := #[] }), (.int .i64 0), (.int .i64 0), (.int .i64 0), (nx v18 1), (nx v18 2), (nx v1 0), t27_5, (nx v6 0), t36_10, (nx v18 0), (.int .i64 0), (.int .i64 0)] []) (
 prP (bnI .leq (nx v11 0) (iv (cnt 1 c0))) fun t54_20 =>
 cndP t54_20 (
 prP (bnI .sub (nx v11 0) (.int .i64 1)) fun t58_21 =>
 ixW (cnt 1 c0) t58_21 fun t59_22 =>
 ldc c0 [] ((natOf t59_22) * 1) fun t60_23 =>
 j16 [a1, a0, (.int .i64 0), (.int .i64 0), (.int .i64 0), (.int .i64 0), (.string { data := #[] }), (.int .i64 0), (.int .i64 0), (.int .i64 0), (nx v11 1), (nx v11 2), (nx v1 0), t27_5, (nx v6 0), t36_10, t60_23, (.int .i64 0), (.int .i64 0)] []) (
 j16 [a1, a0, (.int .i64 0), (.int .i64 0), (.int .i64 0), (.int .i64 0), (.string { data := #[] }), (.int .i64 0), (.int .i64 0), (.int .i64 0), (nx v11 1), (.bool true), (nx v1 0), t27_5, (nx v6 0), t36_10, (.string { data := #[] }), (.int .i64 0), (.int .i64 0)] []))
theorem impl_ReadEvent.cl2 {w0 : World} {a0 a1 : Value} {c0 : List T} {K : J2} (h : impl_ReadEvent.txt ⟨Try.prog, w0⟩ a0 a1 c0 K) : Eng.cl2 ⟨Try.prog, w0⟩ 35 impl_ReadEvent.sg [a0, a1] [c0] K :=
  cl2_of_run (C := ⟨Try.prog, w0⟩) (f := 35) (fn := Try.f35) [(100, impl_eventReader_signed.sg), (101, impl_eventReader_num.sg), (102, impl_eventReader_text.sg), (51, impl_ShowEvent.sg), (103, impl_copyPen.sg)] [(5, [0, 1, 0, 4, 15, 31, 63]), (7, [0, 1, 0, 4, 15, 31, 63]), (15, [0, 1, 0, 4, 15, 31, 63]), (26, [0, 0, 0, 1, 11, 31, 63])] [(1023, ⟨[.v, .p (.j 0) 0, .p (.j 1) 0, .p (.j 2) 0, .p (.j 3) 0, .p (.j 4) 0, .p (.j 5) 0, .p (.j 6) 0], [], [.bx [.v, .t (.f 0) 1], .bx [.v, .v, .v, .v, .v], .bx [.v, .v, .z], .bx [.v, .z], .bx [.v, .v], .bx [.v, .v, .v, .v, .v], .bx [.v, .v, .z]]⟩), (262138, ⟨[.v, .p (.j 0) 0, .p (.j 1) 0, .p (.j 2) 0, .p (.j 3) 0, .p (.j 4) 0, .p (.j 5) 0, .p (.j 6) 0, .v, .v, .v], [], [.bx [.v, .t (.f 0) 1], .bx [.v, .v, .v, .v, .v], .bx [.v, .v, .z], .bx [.v, .z], .bx [.v, .v], .bx [.v, .v, .v, .v, .v], .bx [.v, .v, .t (.j 7) 1], .ls]⟩)] Try.func35 (by kernel_rfl) (by kernel_rfl) (by kernel_rfl) h
/-- spec.ReadFrame -/
def spec_ReadFrame.sg : Sg := ⟨[(0, [.v])], [(0, [.v]), (0, [.v]), (0, [.v])], []⟩
def spec_ReadFrame.txt (C : Ctx) (a0 : Value) (K : J2) : Prop :=
 cl2 C 99 spec_ReadVar.sg [a0] [] fun v1 d2 =>
 prP (bnI .eql (nx v1 1) (.int .i64 0)) fun t16_3 =>
 cndP t16_3 (
 K [(.int .i64 0), (.string { data := #[] }), (.int .i64 0)] []) (
 prP (scS a0 (some (nx v1 1)) none) fun t20_4 =>
 cl2 C 99 spec_ReadVar.sg [t20_4] [] fun v5 d6 =>
 prP (bnI .eql (nx v5 1) (.int .i64 0)) fun t25_7 =>
 gE t25_7 (
 gP t25_7 false (prP (bnI .gtr (nx v5 0) (.int .i64 200))) fun t28_8 =>
 prP (pk t25_7 (.bool true) t28_8) fun t29_9 =>
 gE t29_9 (
 gE t29_9 (
 gP t29_9 false (prP (lnS a0)) fun t33_10 =>
 gE t29_9 (
 gP t29_9 false (prP (bnI .sub t33_10 (nx v1 1))) fun t35_11 =>
 gE t29_9 (
 gP t29_9 false (prP (bnI .sub t35_11 (nx v5 1))) fun t37_12 =>
 gP t29_9 false (prP (bnI .sub t37_12 (.int .i64 4))) fun t38_13 =>
 gP t29_9 false (prP (bnI .gtr (nx v5 0) t38_13)) fun t39_14 =>
 prP (pk t29_9 (.bool true) t39_14) fun t40_15 =>
 cndP t40_15 (
 K [(.int .i64 0), (.string { data := #[] }), (.int .i64 0)] []) (
 prP (bnI .add (nx v1 1) (nx v5 1)) fun t44_16 =>
 prP (bnI .add (nx v1 1) (nx v5 1)) fun t47_17 =>
 prP (bnI .add t47_17 (nx v5 0)) fun t49_18 =>
 prP (scS a0 (some t44_16) (some t49_18)) fun t50_19 =>
 cl2 C 161 spec_ShowFrame.sg [(nx v1 0), t50_19] [] fun v20 d21 =>
 prP (bnI .add (nx v1 1) (nx v5 1)) fun t57_23 =>
 prP (bnI .add t57_23 (nx v5 0)) fun t59_24 =>
 prP (bnI .add t59_24 (.int .i64 4)) fun t60_25 =>
 prP (scS a0 none (some t60_25)) fun t61_26 =>
 prP (bnS .neq (nx v20 0) t61_26) fun t62_27 =>
 cndP t62_27 (
 K [(.int .i64 0), (.string { data := #[] }), (.int .i64 0)] []) (
 prP (bnI .add (nx v1 1) (nx v5 1)) fun t67_28 =>
 prP (bnI .add t67_28 (nx v5 0)) fun t69_29 =>
 prP (bnI .add t69_29 (.int .i64 4)) fun t70_30 =>
 K [(nx v1 0), t50_19, t70_30] []))))))))
theorem spec_ReadFrame.cl2 {w0 : World} {a0 : Value} {K : J2} (h : spec_ReadFrame.txt ⟨Try.prog, w0⟩ a0 K) : Eng.cl2 ⟨Try.prog, w0⟩ 169 spec_ReadFrame.sg [a0] [] K :=
  cl2_of_run (C := ⟨Try.prog, w0⟩) (f := 169) (fn := Try.f169) [(99, spec_ReadVar.sg), (161, spec_ShowFrame.sg)] [(8, [0, 0, 3, 0, 0, 0, 48, 0, 240, 496, 1016, 2047])] [] Try.func169 (by kernel_rfl) (by kernel_rfl) (by kernel_rfl) h
/-- spec.ReadLog -/
def spec_ReadLog.sg : Sg := ⟨[(0, [.v])], [(0, [.t 1]), (0, [.v])], []⟩
def spec_ReadLog.txt (C : Ctx) (a0 : Value) (K : J2) : Prop :=
 cl2 C 160 spec_l4Magic.sg [] [] fun v1 d2 =>
 prP (lnS a0) fun t14_4 =>
 prP (lnS (nx v1 0)) fun t16_5 =>
 prP (bnI .lss t14_4 t16_5) fun t17_6 =>
 gE t17_6 (
 gE t17_6 (
 gP t17_6 false (prP (lnS (nx v1 0))) fun t21_7 =>
 gP t17_6 false (prP (scS a0 none (some t21_7))) fun t22_8 =>
 gE t17_6 (
 gP t17_6 false (prP (bnS .neq t22_8 (nx v1 0))) fun t24_9 =>
 prP (pk t17_6 (.bool true) t24_9) fun t25_10 =>
 cndP t25_10 (
 K [(.int .i64 1)] [[]]) (
 prP (lnS (nx v1 0)) fun t29_11 =>
 loopP (fun r14 x12 k13 =>
 prP (lnS (nx x12 0)) fun t32_16 =>
 prP (bnI .lss (nx x12 1) t32_16) fun t33_17 =>
 cndP t33_17 (
 prP (scS (nx x12 0) (some (nx x12 1)) none) fun t37_18 =>
 cl2 C 169 spec_ReadFrame.sg [t37_18] [] fun v19 d20 =>
 prP (bnI .eql (nx v19 2) (.int .i64 0)) fun t43_21 =>
 cndP t43_21 (
 K [(.int .i64 2)] [(nxc k13 0)]) (
 prP (bnI .neq (nx v19 0) (iv (cnt 1 (nxc k13 1)))) fun t48_22 =>
 cndP t48_22 (
 K [(.int .i64 3)] [(nxc k13 0)]) (
 prP (bnI .add (nx x12 1) (nx v19 2)) fun t52_23 =>
 prP (bnS .eql (nx v19 1) (.string { data := #[] })) fun t54_24 =>
 cndP t54_24 (
 prP (lnS (nx x12 0)) fun t57_25 =>
 prP (bnI .lss t52_23 t57_25) fun t58_26 =>
 cndP t58_26 (
 K [(.int .i64 5)] [(nxc k13 0)]) (
 K [(.int .i64 0)] [(nxc k13 1)])) (
 apW [T.c (nx v19 1)] true (cnt 1 (nxc k13 1)) (cnt 1 [T.c (nx v19 1)]) 16 (
 r14 [(nx x12 0), t52_23] [(nxc k13 0), ((nxc k13 1) ++ [T.c (nx v19 1)])]))))) (
 K [(.int .i64 4)] [(nxc k13 0)])) [a0, t29_11] [[], []]))))
theorem spec_ReadLog.cl2 {w0 : World} {a0 : Value} {K : J2} (h : spec_ReadLog.txt ⟨Try.prog, w0⟩ a0 K) : Eng.cl2 ⟨Try.prog, w0⟩ 105 spec_ReadLog.sg [a0] [] K :=
  cl2_of_run (C := ⟨Try.prog, w0⟩) (f := 105) (fn := Try.f105) [(160, spec_l4Magic.sg), (169, spec_ReadFrame.sg)] [] [(508, ⟨[.v, .t (.j 0) 1, .t (.j 1) 1, .v], [], [.ls, .ls]⟩)] Try.func105 (by kernel_rfl) (by kernel_rfl) (by kernel_rfl) h
/-- spec.Decode -/
def spec_Decode.sg : Sg := ⟨[(0, [.v])], [(0, [.t 5]), (0, [.t 3]), (0, [.v])], []⟩
def spec_Decode.txt (C : Ctx) (a0 : Value) (K : J2) : Prop :=
 cl2 C 105 spec_ReadLog.sg [a0] [] fun v1 d2 =>
 prP (bnI .neq (nx v1 0) (.int .i64 0)) fun t21_3 =>
 cndP t21_3 (
 K [(.int .i64 1)] [[], []]) (
 loopP (fun r6 x4 k5 =>
 prP (bnI .lss (nx x4 0) (iv (cnt 1 (nxc k5 0)))) fun t30_16 =>
 cndP t30_16 (
 ixW (cnt 1 (nxc k5 0)) (nx x4 0) fun t37_17 =>
 ldc (nxc k5 0) [] ((natOf t37_17) * 1) fun t38_18 =>
 cl2 C 33 spec_ReadEvent.sg [(nx x4 1), t38_18] [(nxc k5 3)] fun v19 d20 =>
 prP (un .not (nx v19 8)) fun t45_21 =>
 cndP t45_21 (
 K [(.int .i64 2)] [[], []]) (
 apW [T.c (nx v19 0), T.c (nx v19 1), T.c (nx v19 2), T.c (nx v19 3), T.c (nx v19 4)] true (cnt 5 (nxc k5 1)) (cnt 5 [T.c (nx v19 0), T.c (nx v19 1), T.c (nx v19 2), T.c (nx v19 3), T.c (nx v19 4)]) 48 (
 apW [T.c (nx v19 5), T.c (nx v19 6), T.l 1 (nxc d20 0)] false (cnt 3 (nxc k5 2)) (cnt 3 [T.c (nx v19 5), T.c (nx v19 6), T.l 1 (nxc d20 0)]) 40 (
 prP (bnI .add (nx x4 0) (.int .i64 1)) fun t32_22 =>
 r6 [t32_22, (nx v19 7)] [(nxc k5 0), ((nxc k5 1) ++ [T.c (nx v19 0), T.c (nx v19 1), T.c (nx v19 2), T.c (nx v19 3), T.c (nx v19 4)]), ((nxc k5 2) ++ [T.c (nx v19 5), T.c (nx v19 6), T.l 1 (nxc d20 0)]), (nxc d20 1)])))) (
 K [(.int .i64 0)] [(nxc k5 1), (nxc k5 2)])) [(.int .i64 0), (.int .i64 0)] [(nxc d2 0), [], [], []])
theorem spec_Decode.cl2 {w0 : World} {a0 : Value} {K : J2} (h : spec_Decode.txt ⟨Try.prog, w0⟩ a0 K) : Eng.cl2 ⟨Try.prog, w0⟩ 43 spec_Decode.sg [a0] [] K :=
  cl2_of_run (C := ⟨Try.prog, w0⟩) (f := 43) (fn := Try.f43) [(105, spec_ReadLog.sg), (33, spec_ReadEvent.sg)] [(10, [0, 0, 0, 6, 14, 31, 63, 127, 127, 127, 127, 0, 0, 0, 14591, 31231, 64511, 131071])] [(1018, ⟨[.t (.j 0) 1, .p (.j 1) 0, .t (.j 2) 5, .t (.j 3) 3, .v], [], [.ls, .bx [.v, .t (.j 4) 1], .ls, .ls, .ls]⟩)] Try.func43 (by kernel_rfl) (by kernel_rfl) (by kernel_rfl) h
/-- stringslite.HasPrefix -/
def stringslite_HasPrefix.sg : Sg := ⟨[(0, [.v]), (0, [.v])], [(0, [.v])], []⟩
def stringslite_HasPrefix.txt (C : Ctx) (a0 a1 : Value) (K : J2) : Prop :=
 prP (lnS a0) fun t6_1 =>
 prP (lnS a1) fun t8_2 =>
 prP (bnI .geq t6_1 t8_2) fun t9_3 =>
 gE t9_3 (
 gE t9_3 (
 gP t9_3 true (prP (lnS a1)) fun t13_4 =>
 gP t9_3 true (prP (scS a0 none (some t13_4))) fun t14_5 =>
 gE t9_3 (
 gP t9_3 true (prP (bnS .eql t14_5 a1)) fun t16_6 =>
 prP (pk t9_3 t16_6 (.bool false)) fun t17_7 =>
 K [t17_7] [])))
theorem stringslite_HasPrefix.cl2 {w0 : World} {a0 a1 : Value} {K : J2} (h : stringslite_HasPrefix.txt ⟨Try.prog, w0⟩ a0 a1 K) : Eng.cl2 ⟨Try.prog, w0⟩ 230 stringslite_HasPrefix.sg [a0, a1] [] K :=
  cl2_of_run (C := ⟨Try.prog, w0⟩) (f := 230) (fn := Try.f230) [] [] [] Try.func230 (by kernel_rfl) (by kernel_rfl) (by kernel_rfl) h
/-- stringslite.CutPrefix -/
def stringslite_CutPrefix.sg : Sg := ⟨[(0, [.v]), (0, [.v])], [(0, [.v]), (0, [.v])], []⟩
def stringslite_CutPrefix.txt (C : Ctx) (a0 a1 : Value) (K : J2) : Prop :=
 cl2 C 230 stringslite_HasPrefix.sg [a0, a1] [] fun v1 d2 =>
 prP (un .not (nx v1 0)) fun t9_4 =>
 cndP t9_4 (
 K [a0, (.bool false)] []) (
 prP (lnS a1) fun t13_5 =>
 prP (scS a0 (some t13_5) none) fun t14_6 =>
 K [t14_6, (.bool true)] [])
theorem stringslite_CutPrefix.cl2 {w0 : World} {a0 a1 : Value} {K : J2} (h : stringslite_CutPrefix.txt ⟨Try.prog, w0⟩ a0 a1 K) : Eng.cl2 ⟨Try.prog, w0⟩ 210 stringslite_CutPrefix.sg [a0, a1] [] K :=
  cl2_of_run (C := ⟨Try.prog, w0⟩) (f := 210) (fn := Try.f210) [(230, stringslite_HasPrefix.sg)] [] [] Try.func210 (by kernel_rfl) (by kernel_rfl) (by kernel_rfl) h
/-- strings.CutPrefix -/
def strings_CutPrefix.sg : Sg := ⟨[(0, [.v]), (0, [.v])], [(0, [.v]), (0, [.v])], []⟩
def strings_CutPrefix.txt (C : Ctx) (a0 a1 : Value) (K : J2) : Prop :=
 cl2 C 210 stringslite_CutPrefix.sg [a0, a1] [] fun v1 d2 =>
 K [(nx v1 0), (nx v1 1)] []
theorem strings_CutPrefix.cl2 {w0 : World} {a0 a1 : Value} {K : J2} (h : strings_CutPrefix.txt ⟨Try.prog, w0⟩ a0 a1 K) : Eng.cl2 ⟨Try.prog, w0⟩ 170 strings_CutPrefix.sg [a0, a1] [] K :=
  cl2_of_run (C := ⟨Try.prog, w0⟩) (f := 170) (fn := Try.f170) [(210, stringslite_CutPrefix.sg)] [] [] Try.func170 (by kernel_rfl) (by kernel_rfl) (by kernel_rfl) h
/-- impl.ReadFrame -/
def impl_ReadFrame.sg : Sg := ⟨[(0, [.v])], [(0, [.v]), (0, [.v]), (0, [.v])], []⟩
def impl_ReadFrame.txt (C : Ctx) (a0 : Value) (K : J2) : Prop :=
 cl2 C 167 impl_ReadVar.sg [a0] [] fun v1 d2 =>
 prP (scS a0 (some (nx v1 1)) none) fun t19_3 =>
 cl2 C 167 impl_ReadVar.sg [t19_3] [] fun v4 d5 =>
 prP (bnI .eql (nx v1 1) (.int .i64 0)) fun t24_6 =>
 gE t24_6 (
 gP t24_6 false (prP (bnI .eql (nx v4 1) (.int .i64 0))) fun t27_7 =>
 prP (pk t24_6 (.bool true) t27_7) fun t28_8 =>
 gE t28_8 (
 gP t28_8 false (prP (bnI .gtr (nx v1 0) (.int .i64 400))) fun t31_9 =>
 prP (pk t28_8 (.bool true) t31_9) fun t32_10 =>
 gE t32_10 (
 gP t32_10 false (prP (bnI .gtr (nx v4 0) (.int .i64 200))) fun t35_11 =>
 prP (pk t32_10 (.bool true) t35_11) fun t36_12 =>
 gE t36_12 (
 gE t36_12 (
 gP t36_12 false (prP (lnS a0)) fun t40_13 =>
 gE t36_12 (
 gP t36_12 false (prP (bnI .sub t40_13 (nx v1 1))) fun t42_14 =>
 gE t36_12 (
 gP t36_12 false (prP (bnI .sub t42_14 (nx v4 1))) fun t44_15 =>
 gP t36_12 false (prP (bnI .sub t44_15 (.int .i64 4))) fun t45_16 =>
 gP t36_12 false (prP (bnI .gtr (nx v4 0) t45_16)) fun t46_17 =>
 prP (pk t36_12 (.bool true) t46_17) fun t47_18 =>
 cndP t47_18 (
 K [(.int .i64 0), (.string { data := #[] }), (.int .i64 0)] []) (
 prP (bnI .add (nx v1 1) (nx v4 1)) fun t51_19 =>
 prP (bnI .add (nx v1 1) (nx v4 1)) fun t54_20 =>
 prP (bnI .add t54_20 (nx v4 0)) fun t56_21 =>
 prP (scS a0 (some t51_19) (some t56_21)) fun t57_22 =>
 cl2 C 162 impl_ShowFrame.sg [(nx v1 0), t57_22] [] fun v23 d24 =>
 prP (bnI .add (nx v1 1) (nx v4 1)) fun t65_26 =>
 prP (bnI .add t65_26 (nx v4 0)) fun t67_27 =>
 prP (bnI .add t67_27 (.int .i64 4)) fun t68_28 =>
 prP (scS a0 none (some t68_28)) fun t69_29 =>
 prP (bnS .neq (nx v23 0) t69_29) fun t70_30 =>
 cndP t70_30 (
 K [(.int .i64 0), (.string { data := #[] }), (.int .i64 0)] []) (
 prP (bnI .add (nx v1 1) (nx v4 1)) fun t75_31 =>
 prP (bnI .add t75_31 (nx v4 0)) fun t77_32 =>
 prP (bnI .add t77_32 (.int .i64 4)) fun t78_33 =>
 K [(nx v1 0), t57_22, t78_33] [])))))))))
theorem impl_ReadFrame.cl2 {w0 : World} {a0 : Value} {K : J2} (h : impl_ReadFrame.txt ⟨Try.prog, w0⟩ a0 K) : Eng.cl2 ⟨Try.prog, w0⟩ 171 impl_ReadFrame.sg [a0] [] K :=
  cl2_of_run (C := ⟨Try.prog, w0⟩) (f := 171) (fn := Try.f171) [(167, impl_ReadVar.sg), (162, impl_ShowFrame.sg)] [] [] Try.func171 (by kernel_rfl) (by kernel_rfl) (by kernel_rfl) h
/-- impl.ReadLog -/
def impl_ReadLog.sg : Sg := ⟨[(0, [.v])], [(0, [.t 1]), (0, [.v])], []⟩
def impl_ReadLog.txt (C : Ctx) (a0 : Value) (K : J2) : Prop :=
 cl2 C 170 strings_CutPrefix.sg [a0, (.string { data := #[72, 76, 79, 71, 1] })] [] fun v1 d2 =>
 prP (un .not (nx v1 1)) fun t16_3 =>
 cndP t16_3 (
 K [(.int .i64 1)] [[]]) (
 loopP (fun r6 x4 k5 =>
 prP (bnS .neq (nx x4 0) (.string { data := #[] })) fun t18_20 =>
 cndP t18_20 (
 cl2 C 171 impl_ReadFrame.sg [(nx x4 0)] [] fun v21 d22 =>
 prP (bnI .eql (nx v21 2) (.int .i64 0)) fun t27_23 =>
 cndP t27_23 (
 K [(.int .i64 2)] [[]]) (
 prP (bnI .neq (nx v21 0) (iv (cnt 1 (nxc k5 0)))) fun t32_24 =>
 cndP t32_24 (
 K [(.int .i64 3)] [[]]) (
 prP (bnS .eql (nx v21 1) (.string { data := #[] })) fun t35_25 =>
 gE t35_25 (
 gE t35_25 (
 gP t35_25 true (prP (lnS (nx x4 0))) fun t39_26 =>
 gP t35_25 true (prP (bnI .lss (nx v21 2) t39_26)) fun t40_27 =>
 prP (pk t35_25 t40_27 (.bool false)) fun t41_28 =>
 cndP t41_28 (
 K [(.int .i64 5)] [[]]) (
 prP (bnS .eql (nx v21 1) (.string { data := #[] })) fun t44_29 =>
 cndP t44_29 (
 K [(.int .i64 0)] [(nxc k5 0)]) (
 apW [T.c (nx v21 1)] true (cnt 1 (nxc k5 0)) (cnt 1 [T.c (nx v21 1)]) 16 (
 prP (scS (nx x4 0) (some (nx v21 2)) none) fun t52_30 =>
 r6 [t52_30] [((nxc k5 0) ++ [T.c (nx v21 1)])])))))))) (
 K [(.int .i64 4)] [[]])) [(nx v1 0)] [[]])
theorem impl_ReadLog.cl2 {w0 : World} {a0 : Value} {K : J2} (h : impl_ReadLog.txt ⟨Try.prog, w0⟩ a0 K) : Eng.cl2 ⟨Try.prog, w0⟩ 106 impl_ReadLog.sg [a0] [] K :=
  cl2_of_run (C := ⟨Try.prog, w0⟩) (f := 106) (fn := Try.f106) [(170, strings_CutPrefix.sg), (171, impl_ReadFrame.sg)] [] [(124, ⟨[.v, .t (.j 0) 1], [], [.ls]⟩)] Try.func106 (by kernel_rfl) (by kernel_rfl) (by kernel_rfl) h
/-- impl.Decode -/
def impl_Decode.sg : Sg := ⟨[(0, [.v])], [(0, [.t 5]), (0, [.t 3]), (0, [.v])], []⟩
def impl_Decode.txt (C : Ctx) (a0 : Value) (K : J2) : Prop :=
 cl2 C 106 impl_ReadLog.sg [a0] [] fun v1 d2 =>
 prP (bnI .neq (nx v1 0) (.int .i64 0)) fun t22_3 =>
 cndP t22_3 (
 K [(.int .i64 1)] [[], []]) (
 loopP (fun r6 x4 k5 =>
 prP (bnI .lss (nx x4 1) (nx x4 0)) fun t26_16 =>
 cndP t26_16 (
 ixW (cnt 1 (nxc k5 2)) (nx x4 1) fun t27_17 =>
 ldc (nxc k5 2) [] ((natOf t27_17) * 1) fun t28_18 =>
 cl2 C 35 impl_ReadEvent.sg [(nx x4 2), t28_18] [(nxc k5 3)] fun v19 d20 =>
 prP (un .not (nx v19 8)) fun t38_21 =>
 cndP t38_21 (
 K [(.int .i64 2)] [[], []]) (
 apW [T.c (nx v19 0), T.c (nx v19 1), T.c (nx v19 2), T.c (nx v19 3), T.c (nx v19 4)] true (cnt 5 (nxc k5 0)) (cnt 5 [T.c (nx v19 0), T.c (nx v19 1), T.c (nx v19 2), T.c (nx v19 3), T.c (nx v19 4)]) 48 (
 apW [T.c (nx v19 5), T.c (nx v19 6), T.l 1 (nxc d20 0)] false (cnt 3 (nxc k5 1)) (cnt 3 [T.c (nx v19 5), T.c (nx v19 6), T.l 1 (nxc d20 0)]) 40 (
 prP (bnI .add (nx x4 1) (.int .i64 1)) fun t48_22 =>
 r6 [(nx x4 0), t48_22, (nx v19 7)] [((nxc k5 0) ++ [T.c (nx v19 0), T.c (nx v19 1), T.c (nx v19 2), T.c (nx v19 3), T.c (nx v19 4)]), ((nxc k5 1) ++ [T.c (nx v19 5), T.c (nx v19 6), T.l 1 (nxc d20 0)]), (nxc k5 2), (nxc d20 1)])))) (
 K [(.int .i64 0)] [(nxc k5 0), (nxc k5 1)])) [(iv (cnt 1 (nxc d2 0))), (.int .i64 0), (.int .i64 0)] [[], [], (nxc d2 0), []])
theorem impl_Decode.cl2 {w0 : World} {a0 : Value} {K : J2} (h : impl_Decode.txt ⟨Try.prog, w0⟩ a0 K) : Eng.cl2 ⟨Try.prog, w0⟩ 44 impl_Decode.sg [a0] [] K :=
  cl2_of_run (C := ⟨Try.prog, w0⟩) (f := 44) (fn := Try.f44) [(106, impl_ReadLog.sg), (35, impl_ReadEvent.sg)] [] [(1018, ⟨[.t (.j 0) 5, .t (.j 1) 3, .p (.j 2) 0, .t (.j 3) 1, .v, .v], [], [.ls, .ls, .bx [.v, .t (.j 4) 1], .ls, .ls]⟩)] Try.func44 (by kernel_rfl) (by kernel_rfl) (by kernel_rfl) h
/-- laws.markOpS -/
def laws_markOpS.sg : Sg := ⟨[(0, [.t 5 1]), (0, [.v])], [(0, [.v])], []⟩
def laws_markOpS.txt (C : Ctx) (a0 : Value) (c0 : List T) (K : J2) : Prop :=
 loopP (fun r3 x1 k2 =>
 prP (bnI .lss (nx x1 1) (iv (cnt 5 (nxc k2 0)))) fun t9_5 =>
 cndP t9_5 (
 ixW (cnt 5 (nxc k2 0)) (nx x1 1) fun t15_6 =>
 stc (nxc k2 0) [] ((natOf t15_6) * 5) (nx x1 0) fun k7 =>
 prP (bnI .add (nx x1 0) (.int .i64 1)) fun t18_8 =>
 ixW (cnt 5 k7) (nx x1 1) fun t22_9 =>
 stc k7 [] (((natOf t22_9) * 5) + 1) t18_8 fun k10 =>
 prP (bnI .add t18_8 (.int .i64 1)) fun t25_11 =>
 ixW (cnt 5 k10) (nx x1 1) fun t29_12 =>
 stc k10 [] (((natOf t29_12) * 5) + 2) t25_11 fun k13 =>
 prP (bnI .add t25_11 (.int .i64 1)) fun t32_14 =>
 ixW (cnt 5 k13) (nx x1 1) fun t36_15 =>
 stc k13 [] (((natOf t36_15) * 5) + 3) t32_14 fun k16 =>
 prP (bnI .add t32_14 (.int .i64 1)) fun t39_17 =>
 cl2 C 107 laws_markText.sg [t39_17] [] fun v18 d19 =>
 ixW (cnt 5 k16) (nx x1 1) fun t44_21 =>
 stc k16 [] (((natOf t44_21) * 5) + 4) (nx v18 0) fun k22 =>
 prP (bnI .add t39_17 (.int .i64 1)) fun t47_23 =>
 prP (bnI .add (nx x1 1) (.int .i64 1)) fun t11_24 =>
 r3 [t47_23, t11_24] [k22]) (
 K [(nx x1 0)] [(nxc k2 0)])) [a0, (.int .i64 0)] [c0]
theorem laws_markOpS.cl2 {w0 : World} {a0 : Value} {c0 : List T} {K : J2} (h : laws_markOpS.txt ⟨Try.prog, w0⟩ a0 c0 K) : Eng.cl2 ⟨Try.prog, w0⟩ 45 laws_markOpS.sg [a0] [c0] K :=
  cl2_of_run (C := ⟨Try.prog, w0⟩) (f := 45) (fn := Try.f45) [(107, laws_markText.sg)] [] [(26, ⟨[.t (.j 0) 5, .v, .v], [.t (.j 0) 5], [.ls]⟩)] Try.func45 (by kernel_rfl) (by kernel_rfl) (by kernel_rfl) h
/-- laws.markAnswerS -/
def laws_markAnswerS.sg : Sg := ⟨[(0, [.t 3 1]), (0, [.v])], [(0, [.v])], []⟩
def laws_markAnswerS.txt (C : Ctx) (a0 : Value) (c0 : List T) (K : J2) : Prop :=
 loopP (fun r3 x1 k2 =>
 prP (bnI .lss (nx x1 1) (iv (cnt 3 (nxc k2 0)))) fun t9_5 =>
 cndP t9_5 (
 ixW (cnt 3 (nxc k2 0)) (nx x1 1) fun t15_6 =>
 stc (nxc k2 0) [] ((natOf t15_6) * 3) (nx x1 0) fun k7 =>
 prP (bnI .add (nx x1 0) (.int .i64 1)) fun t18_8 =>
 ixW (cnt 3 k7) (nx x1 1) fun t22_9 =>
 stc k7 [] (((natOf t22_9) * 3) + 1) t18_8 fun k10 =>
 prP (bnI .add t18_8 (.int .i64 1)) fun t25_11 =>
 ixW (cnt 3 k10) (nx x1 1) fun t28_12 =>
 ldl k10 [] (((natOf t28_12) * 3) + 2) 1 fun t30_13 =>
 cl2 C 20 laws_markIntS.sg [t25_11] [(subN k10 [(((natOf t28_12) * 3) + 2)])] fun v14 d15 =>
 prP (bnI .add (nx x1 1) (.int .i64 1)) fun t11_16 =>
 r3 [(nx v14 0), t11_16] [(nput k10 [(((natOf t28_12) * 3) + 2)] (nxc d15 0))]) (
 K [(nx x1 0)] [(nxc k2 0)])) [a0, (.int .i64 0)] [c0]
theorem laws_markAnswerS.cl2 {w0 : World} {a0 : Value} {c0 : List T} {K : J2} (h : laws_markAnswerS.txt ⟨Try.prog, w0⟩ a0 c0 K) : Eng.cl2 ⟨Try.prog, w0⟩ 46 laws_markAnswerS.sg [a0] [c0] K :=
  cl2_of_run (C := ⟨Try.prog, w0⟩) (f := 46) (fn := Try.f46) [(20, laws_markIntS.sg)] [] [(26, ⟨[.t (.j 0) 3, .v, .v], [.t (.j 0) 3], [.ls]⟩)] Try.func46 (by kernel_rfl) (by kernel_rfl) (by kernel_rfl) h
/-- laws.heldOpS -/
def laws_heldOpS.sg : Sg := ⟨[(0, [.t 5 0]), (0, [.v])], [(0, [.v])], []⟩
def laws_heldOpS.txt (C : Ctx) (a0 : Value) (c0 : List T) (K : J2) : Prop :=
 loopP (fun r3 x1 k2 =>
 prP (bnI .lss (nx x1 1) (iv (cnt 5 c0))) fun t9_5 =>
 cndP t9_5 (
 ixW (cnt 5 c0) (nx x1 1) fun t14_6 =>
 ldc c0 [] ((natOf t14_6) * 5) fun t16_7 =>
 prP (bnI .neq t16_7 (nx x1 0)) fun t18_8 =>
 cndP t18_8 (
 K [(.int .i64 (-1))] []) (
 prP (bnI .add (nx x1 0) (.int .i64 1)) fun t20_9 =>
 ixW (cnt 5 c0) (nx x1 1) fun t23_10 =>
 ldc c0 [] (((natOf t23_10) * 5) + 1) fun t25_11 =>
 prP (bnI .neq t25_11 t20_9) fun t27_12 =>
 cndP t27_12 (
 K [(.int .i64 (-1))] []) (
 prP (bnI .add t20_9 (.int .i64 1)) fun t29_13 =>
 ixW (cnt 5 c0) (nx x1 1) fun t32_14 =>
 ldc c0 [] (((natOf t32_14) * 5) + 2) fun t34_15 =>
 prP (bnI .neq t34_15 t29_13) fun t36_16 =>
 cndP t36_16 (
 K [(.int .i64 (-1))] []) (
 prP (bnI .add t29_13 (.int .i64 1)) fun t38_17 =>
 ixW (cnt 5 c0) (nx x1 1) fun t41_18 =>
 ldc c0 [] (((natOf t41_18) * 5) + 3) fun t43_19 =>
 prP (bnI .neq t43_19 t38_17) fun t45_20 =>
 cndP t45_20 (
 K [(.int .i64 (-1))] []) (
 prP (bnI .add t38_17 (.int .i64 1)) fun t47_21 =>
 ixW (cnt 5 c0) (nx x1 1) fun t50_22 =>
 ldc c0 [] (((natOf t50_22) * 5) + 4) fun t52_23 =>
 cl2 C 107 laws_markText.sg [t47_21] [] fun v24 d25 =>
 prP (bnS .neq t52_23 (nx v24 0)) fun t55_27 =>
 cndP t55_27 (
 K [(.int .i64 (-1))] []) (
 prP (bnI .add t47_21 (.int .i64 1)) fun t57_28 =>
 prP (bnI .add (nx x1 1) (.int .i64 1)) fun t11_29 =>
 r3 [t57_28, t11_29] [])))))) (
 K [(nx x1 0)] [])) [a0, (.int .i64 0)] []
theorem laws_heldOpS.cl2 {w0 : World} {a0 : Value} {c0 : List T} {K : J2} (h : laws_heldOpS.txt ⟨Try.prog, w0⟩ a0 c0 K) : Eng.cl2 ⟨Try.prog, w0⟩ 47 laws_heldOpS.sg [a0] [c0] K :=
  cl2_of_run (C := ⟨Try.prog, w0⟩) (f := 47) (fn := Try.f47) [(107, laws_markText.sg)] [(16, [0, 0, 3, 7, 15, 0, 32, 127])] [(26, ⟨[.t (.f 0) 5, .v, .v], [], []⟩)] Try.func47 (by kernel_rfl) (by kernel_rfl) (by kernel_rfl) h
/-- laws.heldAnswerS -/
def laws_heldAnswerS.sg : Sg := ⟨[(0, [.t 3 0]), (0, [.v])], [(0, [.v])], []⟩
def laws_heldAnswerS.txt (C : Ctx) (a0 : Value) (c0 : List T) (K : J2) : Prop :=
 loopP (fun r3 x1 k2 =>
 prP (bnI .lss (nx x1 1) (iv (cnt 3 c0))) fun t9_5 =>
 cndP t9_5 (
 ixW (cnt 3 c0) (nx x1 1) fun t14_6 =>
 ldc c0 [] ((natOf t14_6) * 3) fun t16_7 =>
 prP (bnI .neq t16_7 (nx x1 0)) fun t18_8 =>
 cndP t18_8 (
 K [(.int .i64 (-1))] []) (
 prP (bnI .add (nx x1 0) (.int .i64 1)) fun t20_9 =>
 ixW (cnt 3 c0) (nx x1 1) fun t23_10 =>
 ldc c0 [] (((natOf t23_10) * 3) + 1) fun t25_11 =>
 prP (bnI .neq t25_11 t20_9) fun t27_12 =>
 cndP t27_12 (
 K [(.int .i64 (-1))] []) (
 prP (bnI .add t20_9 (.int .i64 1)) fun t29_13 =>
 ixW (cnt 3 c0) (nx x1 1) fun t32_14 =>
 ldl c0 [] (((natOf t32_14) * 3) + 2) 1 fun t34_15 =>
 cl2 C 21 laws_heldIntS.sg [t29_13] [(subN c0 [(((natOf t32_14) * 3) + 2)])] fun v16 d17 =>
 prP (bnI .lss (nx v16 0) (.int .i64 0)) fun t38_19 =>
 cndP t38_19 (
 K [(.int .i64 (-1))] []) (
 prP (bnI .add (nx x1 1) (.int .i64 1)) fun t11_20 =>
 r3 [(nx v16 0), t11_20] [])))) (
 K [(nx x1 0)] [])) [a0, (.int .i64 0)] []
theorem laws_heldAnswerS.cl2 {w0 : World} {a0 : Value} {c0 : List T} {K : J2} (h : laws_heldAnswerS.txt ⟨Try.prog, w0⟩ a0 c0 K) : Eng.cl2 ⟨Try.prog, w0⟩ 48 laws_heldAnswerS.sg [a0] [c0] K :=
  cl2_of_run (C := ⟨Try.prog, w0⟩) (f := 48) (fn := Try.f48) [(21, laws_heldIntS.sg)] [] [(26, ⟨[.t (.f 0) 3, .v, .v], [], []⟩)] Try.func48 (by kernel_rfl) (by kernel_rfl) (by kernel_rfl) h
/-- laws.FnExactDecode -/
def laws_FnExactDecode.sg : Sg := ⟨[(0, [.v])], [(0, [.v])], []⟩
def laws_FnExactDecode.txt (C : Ctx) (a0 : Value) (K : J2) : Prop :=
 prP (lnS a0) fun t15_1 =>
 prP (bnI .gtr t15_1 (.int .i64 1048576)) fun t16_2 =>
 cndP t16_2 (
 K [(.bool true)] []) (
 cl2 C 43 spec_Decode.sg [a0] [] fun v3 d4 =>
 cl2 C 44 impl_Decode.sg [a0] [] fun v5 d6 =>
 cl2 C 30 laws_eqOpS.sg [] [(nxc d6 0), (nxc d4 0)] fun v7 d8 =>
 prP (un .not (nx v7 0)) fun t32_10 =>
 gE t32_10 (
 gE t32_10 (
 gP t32_10 false ((fun K => cl2 C 31 laws_eqAnswerS.sg [] [(nxc d6 1), (nxc d4 1)] fun v11 d12 => K (nx v11 0))) fun t36_13 =>
 gP t32_10 false (prP (un .not t36_13)) fun t37_14 =>
 prP (pk t32_10 (.bool true) t37_14) fun t38_15 =>
 gE t38_15 (
 gE t38_15 (
 gP t38_15 false (prP (bnI .neq (nx v5 0) (nx v3 0))) fun t42_16 =>
 prP (pk t38_15 (.bool true) t42_16) fun t43_17 =>
 cndP t43_17 (
 K [(.bool false)] []) (
 cl2 C 45 laws_markOpS.sg [(.int .i64 1)] [(nxc d6 0)] fun v18 d19 =>
 cl2 C 46 laws_markAnswerS.sg [(nx v18 0)] [(nxc d6 1)] fun v20 d21 =>
 cl2 C 47 laws_heldOpS.sg [(.int .i64 1)] [(nxc d19 0)] fun v22 d23 =>
 prP (bnI .lss (nx v22 0) (.int .i64 0)) fun t54_25 =>
 cndP t54_25 (
 K [(.bool false)] []) (
 cl2 C 48 laws_heldAnswerS.sg [(nx v22 0)] [(nxc d21 0)] fun v26 d27 =>
 prP (bnI .lss (nx v26 0) (.int .i64 0)) fun t59_29 =>
 cndP t59_29 (
 K [(.bool false)] []) (
 prP (bnI .neq (nx v26 0) (nx v20 0)) fun t62_30 =>
 cndP t62_30 (
 K [(.bool false)] []) (
 cl2 C 44 impl_Decode.sg [a0] [] fun v31 d32 =>
 cl2 C 30 laws_eqOpS.sg [] [(nxc d32 0), (nxc d4 0)] fun v33 d34 =>
 prP (un .not (nx v33 0)) fun t72_36 =>
 gE t72_36 (
 gE t72_36 (
 gP t72_36 false ((fun K => cl2 C 31 laws_eqAnswerS.sg [] [(nxc d32 1), (nxc d4 1)] fun v37 d38 => K (nx v37 0))) fun t76_39 =>
 gP t72_36 false (prP (un .not t76_39)) fun t77_40 =>
 prP (pk t72_36 (.bool true) t77_40) fun t78_41 =>
 gE t78_41 (
 gE t78_41 (
 gP t78_41 false (prP (bnI .neq (nx v31 0) (nx v3 0))) fun t82_42 =>
 prP (pk t78_41 (.bool true) t82_42) fun t83_43 =>
 cndP t83_43 (
 K [(.bool false)] []) (
 cl2 C 47 laws_heldOpS.sg [(.int .i64 1)] [(nxc d19 0)] fun v44 d45 =>
 prP (bnI .lss (nx v44 0) (.int .i64 0)) fun t88_47 =>
 cndP t88_47 (
 K [(.bool false)] []) (
 cl2 C 48 laws_heldAnswerS.sg [(nx v44 0)] [(nxc d21 0)] fun v48 d49 =>
 prP (bnI .lss (nx v48 0) (.int .i64 0)) fun t93_51 =>
 cndP t93_51 (
 K [(.bool false)] []) (
 prP (bnI .neq (nx v48 0) (nx v20 0)) fun t96_52 =>
 cndP t96_52 (
 K [(.bool false)] []) (
 K [(.bool true)] [])))))))))))))))))
theorem laws_FnExactDecode.cl2 {w0 : World} {a0 : Value} {K : J2} (h : laws_FnExactDecode.txt ⟨Try.prog, w0⟩ a0 K) : Eng.cl2 ⟨Try.prog, w0⟩ 7 laws_FnExactDecode.sg [a0] [] K :=
  cl2_of_run (C := ⟨Try.prog, w0⟩) (f := 7) (fn := Try.f7) [(43, spec_Decode.sg), (44, impl_Decode.sg), (30, laws_eqOpS.sg), (31, laws_eqAnswerS.sg), (45, laws_markOpS.sg), (46, laws_markAnswerS.sg), (47, laws_heldOpS.sg), (48, laws_heldAnswerS.sg)] [] [] Try.func7 (by kernel_rfl) (by kernel_rfl) (by kernel_rfl) h
end Go.Proofs.Ytnhicpkhkaihoaa.P
