/- The functions of the code as the pure engine's texts, printed by my program gen2.py: each with its call. -/
import Derived.Test.YtnhicpkhkaihoaaChecked
import Derived.Test.YtnhicpkhkaihoaaCePZ1
import Derived.KernelRfl
namespace Go.Proofs.Ytnhicpkhkaihoaa.P
open Go Go.Proofs.Ytnhicpkhkaihoaa Go.Proofs.Ytnhicpkhkaihoaa.Eng
set_option linter.unusedVariables false
set_option maxRecDepth 100000
/-- spec.ReadEvent -/
def spec_ReadEvent.sg : Sg := ⟨[(1, [.v, .t 1 0]), (0, [.v])], [(1, [.v, .v, .v, .v, .v]), (1, [.v, .v, .t 1]), (1, [.v, .t 1]), (0, [.v])], []⟩
def spec_ReadEvent.txt (C : Ctx) (a0 a1 : Value) (c0 : List T) (K : J2) : Prop :=
 apW c0 true (cnt 1 []) (cnt 1 c0) 16 (
 cl2 C 97 spec_l10Ints.sg [a1, (.int .i64 0), (.int .i64 4)] [] fun v1 d2 =>
 prP (bnI .lss (nx v1 0) (.int .i64 0)) fun t39_3 =>
 cndP t39_3 (
 K [(.int .i64 0), (.int .i64 0), (.int .i64 0), (.int .i64 0), (.string { data := #[] }), (.int .i64 0), (.int .i64 0), a0, (.bool false)] [[], ([] ++ c0)]) (
 ixW (cnt 1 (nxc d2 0)) (.int .i64 0) fun t44_4 =>
 ldc (nxc d2 0) [] ((natOf t44_4) * 1) fun t45_5 =>
 ixW (cnt 1 (nxc d2 0)) (.int .i64 1) fun t47_6 =>
 ldc (nxc d2 0) [] ((natOf t47_6) * 1) fun t48_7 =>
 prP (bnI .add t48_7 a0) fun t51_8 =>
 ixW (cnt 1 (nxc d2 0)) (.int .i64 2) fun t53_9 =>
 ldc (nxc d2 0) [] ((natOf t53_9) * 1) fun t54_10 =>
 ixW (cnt 1 (nxc d2 0)) (.int .i64 3) fun t57_11 =>
 ldc (nxc d2 0) [] ((natOf t57_11) * 1) fun t58_12 =>
 prP (bnI .add t58_12 t51_8) fun t61_13 =>
 cl2 C 98 spec_l10Name.sg [a0, a1, (nx v1 0)] [c0] fun v14 d15 =>
 prP (bnI .lss (nx v14 1) (.int .i64 0)) fun t71_16 =>
 cndP t71_16 (
 K [(.int .i64 0), (.int .i64 0), (.int .i64 0), (.int .i64 0), (.string { data := #[] }), (.int .i64 0), (.int .i64 0), a0, (.bool false)] [[], ([] ++ c0)]) (
 prP (scS a1 (some (nx v14 1)) none) fun t80_17 =>
 cl2 C 99 spec_ReadVar.sg [t80_17] [] fun v18 d19 =>
 prP (bnI .add (nx v14 1) (nx v18 1)) fun t88_20 =>
 cl2 C 97 spec_l10Ints.sg [a1, t88_20, (.int .i64 1)] [] fun v21 d22 =>
 prP (bnI .eql (nx v18 1) (.int .i64 0)) fun t93_23 =>
 gE t93_23 (
 gP t93_23 false (prP (bnI .lss (nx v21 0) (.int .i64 0))) fun t96_24 =>
 prP (pk t93_23 (.bool true) t96_24) fun t97_25 =>
 cndP t97_25 (
 K [(.int .i64 0), (.int .i64 0), (.int .i64 0), (.int .i64 0), (.string { data := #[] }), (.int .i64 0), (.int .i64 0), a0, (.bool false)] [[], ([] ++ c0)]) (
 prP (scS a1 (some (nx v21 0)) none) fun t104_26 =>
 cl2 C 99 spec_ReadVar.sg [t104_26] [] fun v27 d28 =>
 prP (bnI .eql (nx v27 1) (.int .i64 0)) fun t109_29 =>
 gE t109_29 (
 gP t109_29 false (prP (bnI .gtr (nx v27 0) (.int .i64 8))) fun t112_30 =>
 prP (pk t109_29 (.bool true) t112_30) fun t113_31 =>
 cndP t113_31 (
 K [(.int .i64 0), (.int .i64 0), (.int .i64 0), (.int .i64 0), (.string { data := #[] }), (.int .i64 0), (.int .i64 0), a0, (.bool false)] [[], ([] ++ c0)]) (
 ixW (cnt 1 (nxc d22 0)) (.int .i64 0) fun t119_32 =>
 ldc (nxc d22 0) [] ((natOf t119_32) * 1) fun t120_33 =>
 prP (bnI .add t120_33 t51_8) fun t123_34 =>
 prP (bnI .add (nx v21 0) (nx v27 1)) fun t129_35 =>
 cl2 C 97 spec_l10Ints.sg [a1, t129_35, (nx v27 0)] [] fun v36 d37 =>
 loopP (fun r40 x38 k39 =>
 prP (bnI .lss (nx x38 3) (iv (cnt 1 (nxc k39 0)))) fun t139_55 =>
 cndP t139_55 (
 ixW (cnt 1 (nxc k39 0)) (nx x38 3) fun t145_56 =>
 ldc (nxc k39 0) [] ((natOf t145_56) * 1) fun t146_57 =>
 prP (bnI .add (nx x38 2) t146_57) fun t147_58 =>
 apW [T.c t147_58] true (cnt 1 (nxc k39 2)) (cnt 1 [T.c t147_58]) 8 (
 prP (bnI .add (nx x38 3) (.int .i64 1)) fun t141_59 =>
 r40 [(nx x38 0), (nx x38 1), t147_58, t141_59, (nx x38 4), (nx x38 5), (nx x38 6), (nx x38 7), (nx x38 8), (nx x38 9), (nx x38 10), (nx x38 11), (nx x38 12), (nx x38 13), (nx x38 14), (nx x38 15), (nx x38 16), (nx x38 17), (nx x38 18), (nx x38 19), (nx x38 20)] [(nxc k39 0), (nxc k39 1), ((nxc k39 2) ++ [T.c t147_58])])) (
 cl2 C 52 spec_ShowEvent.sg [(nx x38 4), (nx x38 14), (nx x38 15), (nx x38 16), (nx x38 17), (nx x38 18), (nx x38 19), (nx x38 20)] [c0, (nxc k39 2)] fun v60 d61 =>
 prP (bnI .lss (nx x38 1) (.int .i64 0)) fun t162_62 =>
 gE t162_62 (
 gE t162_62 (
 gP t162_62 false (prP (bnS .neq (nx v60 0) (nx x38 0))) fun t166_63 =>
 prP (pk t162_62 (.bool true) t166_63) fun t167_64 =>
 gE t167_64 (
 gP t167_64 false (prP (bnS .eql (nx x38 0) (.string { data := #[] }))) fun t170_65 =>
 prP (pk t167_64 (.bool true) t170_65) fun t171_66 =>
 cndP t171_66 (
 K [(.int .i64 0), (.int .i64 0), (.int .i64 0), (.int .i64 0), (.string { data := #[] }), (.int .i64 0), (.int .i64 0), (nx x38 13), (.bool false)] [[], (nxc k39 1)]) (
 K [(nx x38 14), (nx x38 15), (nx x38 16), (nx x38 17), (nx x38 18), (nx x38 19), (nx x38 20), (nx v60 1), (.bool true)] [(nxc k39 2), (nxc d61 0)])))))) [a1, (nx v36 0), t51_8, (.int .i64 0), a0, (.int .i64 0), (.int .i64 0), (.int .i64 0), (.int .i64 0), (.string { data := #[] }), (.int .i64 0), (.int .i64 0), (.int .i64 0), a0, t45_5, t51_8, t54_10, t61_13, (nx v14 0), (nx v18 0), t123_34] [(nxc d37 0), ([] ++ c0), []])))))))
theorem spec_ReadEvent.cl2 {w0 : World} {a0 a1 : Value} {c0 : List T} {K : J2} (h : spec_ReadEvent.txt ⟨Try.prog, w0⟩ a0 a1 c0 K) : Eng.cl2 ⟨Try.prog, w0⟩ 33 spec_ReadEvent.sg [a0, a1] [c0] K :=
  cl2_of_run (C := ⟨Try.prog, w0⟩) (f := 33) (fn := Try.f33) [(97, spec_l10Ints.sg), (98, spec_l10Name.sg), (99, spec_ReadVar.sg), (52, spec_ShowEvent.sg)] [(1, [0, 1, 0, 0, 8, 28, 63, 0, 255]), (4, [0, 0, 0, 1, 11, 31, 63]), (5, [0, 1, 3, 0, 8, 24, 0, 64, 248, 0, 512, 1536, 4095, 0, 16383]), (6, [0, 1, 3, 0, 8, 31, 63, 127]), (9, [0, 0, 0, 1, 11, 31, 63]), (14, [0, 0, 0, 1, 11, 31, 63]), (17, [0, 0, 0, 1, 11, 31, 63]), (18, [0, 0, 2, 6, 0, 16, 62, 127, 0, 511]), (28, [0, 0, 0, 1, 11, 31, 63]), (29, [0, 0, 0, 1, 11, 31, 63])] [(2097146, ⟨[.v, .p (.j 0) 0, .p (.j 1) 0, .p (.j 2) 0, .p (.j 3) 0, .p (.j 4) 0, .p (.j 5) 0, .p (.j 6) 0, .t (.j 7) 1, .v, .v, .v], [], [.bx [.v, .t (.f 0) 1], .bx [.v, .v, .v, .v, .v], .bx [.v, .v, .z], .bx [.v, .z], .bx [.v, .t (.j 8) 1], .bx [.v, .v, .v, .v, .v], .bx [.v, .v, .t (.j 9) 1], .ls, .ls, .ls]⟩)] Try.func33 (by kernel_rfl) (by kernel_rfl) (by kernel_rfl) h
/-- impl.ReadVar -/
def impl_ReadVar.sg : Sg := ⟨[(0, [.v])], [(0, [.v]), (0, [.v])], []⟩
def impl_ReadVar.txt (C : Ctx) (a0 : Value) (K : J2) : Prop :=
 loopP (fun r3 x1 k2 =>
 prP (bnI .lss (nx x1 2) (.int .i64 7)) fun t8_5 =>
 gE t8_5 (
 gE t8_5 (
 gP t8_5 true (prP (lnS (nx x1 0))) fun t12_6 =>
 gP t8_5 true (prP (bnI .lss (nx x1 2) t12_6)) fun t13_7 =>
 prP (pk t8_5 t13_7 (.bool false)) fun t14_8 =>
 cndP t14_8 (
 prP (ix (nx x1 0) (nx x1 2)) fun t19_9 =>
 prP (cvI .i64 t19_9) fun t20_10 =>
 prP (bnI .rem t20_10 (.int .i64 128)) fun t23_11 =>
 prP (bnI .mul (.int .i64 7) (nx x1 2)) fun t25_12 =>
 prP (bnI .shl t23_11 t25_12) fun t26_13 =>
 prP (bnI .add (nx x1 1) t26_13) fun t27_14 =>
 prP (bnI .geq t20_10 (.int .i64 128)) fun t29_15 =>
 cndP t29_15 (
 prP (bnI .add (nx x1 2) (.int .i64 1)) fun t16_16 =>
 r3 [(nx x1 0), t27_14, t16_16] []) (
 prP (bnI .eql t20_10 (.int .i64 0)) fun t31_17 =>
 gE t31_17 (
 gP t31_17 true (prP (bnI .gtr (nx x1 2) (.int .i64 0))) fun t34_18 =>
 prP (pk t31_17 t34_18 (.bool false)) fun t35_19 =>
 cndP t35_19 (
 K [(.int .i64 0), (.int .i64 0)] []) (
 prP (bnI .add (nx x1 2) (.int .i64 1)) fun t38_20 =>
 K [t27_14, t38_20] [])))) (
 K [(.int .i64 0), (.int .i64 0)] [])))) [a0, (.int .i64 0), (.int .i64 0)] []
theorem impl_ReadVar.cl2 {w0 : World} {a0 : Value} {K : J2} (h : impl_ReadVar.txt ⟨Try.prog, w0⟩ a0 K) : Eng.cl2 ⟨Try.prog, w0⟩ 167 impl_ReadVar.sg [a0] [] K :=
  cl2_of_run (C := ⟨Try.prog, w0⟩) (f := 167) (fn := Try.f167) [] [] [(58, ⟨[.v, .v, .v], [], []⟩)] Try.func167 (by kernel_rfl) (by kernel_rfl) (by kernel_rfl) h
/-- impl.Zag -/
def impl_Zag.sg : Sg := ⟨[(0, [.v])], [(0, [.v])], []⟩
def impl_Zag.txt (C : Ctx) (a0 : Value) (K : J2) : Prop :=
 prP (bnI .rem a0 (.int .i64 2)) fun t4_1 =>
 prP (bnI .eql t4_1 (.int .i64 0)) fun t5_2 =>
 cndP t5_2 (
 prP (bnI .quo a0 (.int .i64 2)) fun t7_3 =>
 K [t7_3] []) (
 prP (bnI .quo a0 (.int .i64 2)) fun t9_4 =>
 prP (un .neg t9_4) fun t10_5 =>
 prP (bnI .sub t10_5 (.int .i64 1)) fun t11_6 =>
 K [t11_6] [])
theorem impl_Zag.cl2 {w0 : World} {a0 : Value} {K : J2} (h : impl_Zag.txt ⟨Try.prog, w0⟩ a0 K) : Eng.cl2 ⟨Try.prog, w0⟩ 209 impl_Zag.sg [a0] [] K :=
  cl2_of_run (C := ⟨Try.prog, w0⟩) (f := 209) (fn := Try.f209) [] [] [] Try.func209 (by kernel_rfl) (by kernel_rfl) (by kernel_rfl) h
/-- impl.ReadInt -/
def impl_ReadInt.sg : Sg := ⟨[(0, [.v])], [(0, [.v]), (0, [.v])], []⟩
def impl_ReadInt.txt (C : Ctx) (a0 : Value) (K : J2) : Prop :=
 cl2 C 167 impl_ReadVar.sg [a0] [] fun v1 d2 =>
 prP (bnI .eql (nx v1 1) (.int .i64 0)) fun t12_3 =>
 gE t12_3 (
 gP t12_3 false (prP (bnI .gtr (nx v1 0) (.int .i64 200000000000000))) fun t15_4 =>
 prP (pk t12_3 (.bool true) t15_4) fun t16_5 =>
 cndP t16_5 (
 K [(.int .i64 0), (.int .i64 0)] []) (
 cl2 C 209 impl_Zag.sg [(nx v1 0)] [] fun v6 d7 =>
 K [(nx v6 0), (nx v1 1)] []))
theorem impl_ReadInt.cl2 {w0 : World} {a0 : Value} {K : J2} (h : impl_ReadInt.txt ⟨Try.prog, w0⟩ a0 K) : Eng.cl2 ⟨Try.prog, w0⟩ 165 impl_ReadInt.sg [a0] [] K :=
  cl2_of_run (C := ⟨Try.prog, w0⟩) (f := 165) (fn := Try.f165) [(167, impl_ReadVar.sg), (209, impl_Zag.sg)] [] [] Try.func165 (by kernel_rfl) (by kernel_rfl) (by kernel_rfl) h
/-- impl.eventReader).took -/
def impl_eventReader_took.sg : Sg := ⟨[(2, [.v, .v]), (0, [.v])], [], [[.v, .v]]⟩
def impl_eventReader_took.txt (C : Ctx) (a0 a1 a2 : Value) (K : J2) : Prop :=
 joinP (fun x2 k3 =>
 prP (scS (nx x2 1) (some (nx x2 0)) none) fun t15_6 =>
 K [t15_6, (nx x2 2)] []) fun j4 =>
 prP (bnI .eql a2 (.int .i64 0)) fun t5_5 =>
 cndP t5_5 (
 j4 [a2, a0, (.bool true)] []) (
 j4 [a2, a0, a1] [])
theorem impl_eventReader_took.cl2 {w0 : World} {a0 a1 a2 : Value} {K : J2} (h : impl_eventReader_took.txt ⟨Try.prog, w0⟩ a0 a1 a2 K) : Eng.cl2 ⟨Try.prog, w0⟩ 166 impl_eventReader_took.sg [a0, a1, a2] [] K :=
  cl2_of_run (C := ⟨Try.prog, w0⟩) (f := 166) (fn := Try.f166) [] [] [(1, ⟨[.p (.j 0) 0, .v], [.p (.j 0) 0], [.bx [.v, .v]]⟩)] Try.func166 (by kernel_rfl) (by kernel_rfl) (by kernel_rfl) h
/-- impl.eventReader).signed -/
def impl_eventReader_signed.sg : Sg := ⟨[(2, [.v, .v])], [(0, [.v])], [[.v, .v]]⟩
def impl_eventReader_signed.txt (C : Ctx) (a0 a1 : Value) (K : J2) : Prop :=
 cl2 C 165 impl_ReadInt.sg [a0] [] fun v1 d2 =>
 cl2 C 166 impl_eventReader_took.sg [a0, a1, (nx v1 1)] [] fun v3 d4 =>
 K [(nx v1 0), (nx v3 0), (nx v3 1)] []
theorem impl_eventReader_signed.cl2 {w0 : World} {a0 a1 : Value} {K : J2} (h : impl_eventReader_signed.txt ⟨Try.prog, w0⟩ a0 a1 K) : Eng.cl2 ⟨Try.prog, w0⟩ 100 impl_eventReader_signed.sg [a0, a1] [] K :=
  cl2_of_run (C := ⟨Try.prog, w0⟩) (f := 100) (fn := Try.f100) [(165, impl_ReadInt.sg), (166, impl_eventReader_took.sg)] [] [] Try.func100 (by kernel_rfl) (by kernel_rfl) (by kernel_rfl) h
/-- impl.eventReader).num -/
def impl_eventReader_num.sg : Sg := ⟨[(2, [.v, .v])], [(0, [.v])], [[.v, .v]]⟩
def impl_eventReader_num.txt (C : Ctx) (a0 a1 : Value) (K : J2) : Prop :=
 cl2 C 167 impl_ReadVar.sg [a0] [] fun v1 d2 =>
 cl2 C 166 impl_eventReader_took.sg [a0, a1, (nx v1 1)] [] fun v3 d4 =>
 K [(nx v1 0), (nx v3 0), (nx v3 1)] []
theorem impl_eventReader_num.cl2 {w0 : World} {a0 a1 : Value} {K : J2} (h : impl_eventReader_num.txt ⟨Try.prog, w0⟩ a0 a1 K) : Eng.cl2 ⟨Try.prog, w0⟩ 101 impl_eventReader_num.sg [a0, a1] [] K :=
  cl2_of_run (C := ⟨Try.prog, w0⟩) (f := 101) (fn := Try.f101) [(167, impl_ReadVar.sg), (166, impl_eventReader_took.sg)] [] [] Try.func101 (by kernel_rfl) (by kernel_rfl) (by kernel_rfl) h
/-- impl.ReadText -/
def impl_ReadText.sg : Sg := ⟨[(0, [.v])], [(0, [.v]), (0, [.v])], []⟩
def impl_ReadText.txt (C : Ctx) (a0 : Value) (K : J2) : Prop :=
 cl2 C 167 impl_ReadVar.sg [a0] [] fun v1 d2 =>
 prP (bnI .eql (nx v1 1) (.int .i64 0)) fun t12_3 =>
 gE t12_3 (
 gP t12_3 false (prP (bnI .gtr (nx v1 0) (.int .i64 8))) fun t15_4 =>
 prP (pk t12_3 (.bool true) t15_4) fun t16_5 =>
 gE t16_5 (
 gE t16_5 (
 gP t16_5 false (prP (lnS a0)) fun t20_6 =>
 gE t16_5 (
 gP t16_5 false (prP (bnI .sub t20_6 (nx v1 1))) fun t22_7 =>
 gP t16_5 false (prP (bnI .gtr (nx v1 0) t22_7)) fun t23_8 =>
 prP (pk t16_5 (.bool true) t23_8) fun t24_9 =>
 cndP t24_9 (
 K [(.string { data := #[] }), (.int .i64 0)] []) (
 prP (bnI .add (nx v1 1) (nx v1 0)) fun t29_10 =>
 prP (scS a0 (some (nx v1 1)) (some t29_10)) fun t30_11 =>
 prP (bnI .add (nx v1 1) (nx v1 0)) fun t33_12 =>
 K [t30_11, t33_12] [])))))
theorem impl_ReadText.cl2 {w0 : World} {a0 : Value} {K : J2} (h : impl_ReadText.txt ⟨Try.prog, w0⟩ a0 K) : Eng.cl2 ⟨Try.prog, w0⟩ 168 impl_ReadText.sg [a0] [] K :=
  cl2_of_run (C := ⟨Try.prog, w0⟩) (f := 168) (fn := Try.f168) [(167, impl_ReadVar.sg)] [] [] Try.func168 (by kernel_rfl) (by kernel_rfl) (by kernel_rfl) h
/-- impl.eventReader).text -/
def impl_eventReader_text.sg : Sg := ⟨[(2, [.v, .v])], [(0, [.v])], [[.v, .v]]⟩
def impl_eventReader_text.txt (C : Ctx) (a0 a1 : Value) (K : J2) : Prop :=
 cl2 C 168 impl_ReadText.sg [a0] [] fun v1 d2 =>
 cl2 C 166 impl_eventReader_took.sg [a0, a1, (nx v1 1)] [] fun v3 d4 =>
 K [(nx v1 0), (nx v3 0), (nx v3 1)] []
theorem impl_eventReader_text.cl2 {w0 : World} {a0 a1 : Value} {K : J2} (h : impl_eventReader_text.txt ⟨Try.prog, w0⟩ a0 a1 K) : Eng.cl2 ⟨Try.prog, w0⟩ 102 impl_eventReader_text.sg [a0, a1] [] K :=
  cl2_of_run (C := ⟨Try.prog, w0⟩) (f := 102) (fn := Try.f102) [(168, impl_ReadText.sg), (166, impl_eventReader_took.sg)] [] [] Try.func102 (by kernel_rfl) (by kernel_rfl) (by kernel_rfl) h
/-- impl.ReadEvent -/
def impl_ReadEvent.sg : Sg := ⟨[(1, [.v, .t 1 0]), (0, [.v])], [(1, [.v, .v, .v, .v, .v]), (1, [.v, .v, .t 1]), (1, [.v, .t 1]), (0, [.v])], []⟩
def impl_ReadEvent.txt (C : Ctx) (a0 a1 : Value) (c0 : List T) (K : J2) : Prop :=
 cl2 C 100 impl_eventReader_signed.sg [a1, (.bool false)] [] fun v1 d2 =>
 cl2 C 100 impl_eventReader_signed.sg [(nx v1 1), (nx v1 2)] [] fun v3 d4 =>
 prP (bnI .add a0 (nx v3 0)) fun t27_5 =>
 cl2 C 100 impl_eventReader_signed.sg [(nx v3 1), (nx v3 2)] [] fun v6 d7 =>
 cl2 C 100 impl_eventReader_signed.sg [(nx v6 1), (nx v6 2)] [] fun v8 d9 =>
 prP (bnI .add t27_5 (nx v8 0)) fun t36_10 =>
 cl2 C 101 impl_eventReader_num.sg [(nx v8 1), (nx v8 2)] [] fun v11 d12 =>
 joinP (fun x14 k15 =>
 cl2 C 101 impl_eventReader_num.sg [(nx x14 10), (nx x14 11)] [] fun v24 d25 =>
 cl2 C 100 impl_eventReader_signed.sg [(nx v24 1), (nx v24 2)] [] fun v26 d27 =>
 prP (bnI .add (nx x14 13) (nx v26 0)) fun t69_28 =>
 cl2 C 101 impl_eventReader_num.sg [(nx v26 1), (nx v26 2)] [] fun v29 d30 =>
 loopP (fun r33 x31 k32 =>
 prP (bnI .lss (nx x31 3) (nx x31 1)) fun t77_51 =>
 gE t77_51 (
 gE t77_51 (
 gE t77_51 (
 gE t77_51 (
 gP t77_51 true (prP (un .not (nx x31 14))) fun t83_52 =>
 prP (pk t77_51 t83_52 (.bool false)) fun t84_53 =>
 cndP t84_53 (
 cl2 C 100 impl_eventReader_signed.sg [(nx x31 13), (nx x31 14)] [] fun v54 d55 =>
 prP (bnI .add (nx x31 2) (nx v54 0)) fun t90_56 =>
 apW [T.c t90_56] true (cnt 1 (nxc k32 0)) (cnt 1 [T.c t90_56]) 8 (
 prP (bnI .add (nx x31 3) (.int .i64 1)) fun t86_57 =>
 r33 [(nx x31 0), (nx x31 1), t90_56, t86_57, (nx x31 4), (nx x31 5), (nx x31 6), (nx x31 7), (nx x31 8), (nx x31 9), (nx x31 10), (nx x31 11), (nx x31 12), (nx v54 1), (nx v54 2), (nx x31 15), (nx x31 16), (nx x31 17), (nx x31 18), (nx x31 19), (nx x31 20), (nx x31 21)] [((nxc k32 0) ++ [T.c t90_56])])) (
 cl2 C 51 impl_ShowEvent.sg [(nx x31 4), (nx x31 15), (nx x31 16), (nx x31 17), (nx x31 18), (nx x31 19), (nx x31 20), (nx x31 21)] [c0, (nxc k32 0)] fun v58 d59 =>
 gE (nx x31 14) (
 gP (nx x31 14) false (prP (bnS .eql (nx v58 0) (.string { data := #[] }))) fun t110_60 =>
 prP (pk (nx x31 14) (.bool true) t110_60) fun t111_61 =>
 gE t111_61 (
 gE t111_61 (
 gP t111_61 false (prP (bnS .neq (nx v58 0) (nx x31 0))) fun t115_62 =>
 prP (pk t111_61 (.bool true) t115_62) fun t116_63 =>
 cndP t116_63 (
 cl2 C 103 impl_copyPen.sg [(nx x31 4)] [c0] fun v64 d65 =>
 K [(.int .i64 0), (.int .i64 0), (.int .i64 0), (.int .i64 0), (.string { data := #[] }), (.int .i64 0), (.int .i64 0), (nx v64 0), (.bool false)] [[], (nxc d65 0)]) (
 K [(nx x31 15), (nx x31 16), (nx x31 17), (nx x31 18), (nx x31 19), (nx x31 20), (nx x31 21), (nx v58 1), (.bool true)] [(nxc k32 0), (nxc d59 0)])))))))))) [(nx x14 0), (nx v29 0), (nx x14 13), (.int .i64 0), (nx x14 1), (nx x14 2), (nx x14 3), (nx x14 4), (nx x14 5), (nx x14 6), (nx x14 7), (nx x14 8), (nx x14 9), (nx v29 1), (nx v29 2), (nx x14 12), (nx x14 13), (nx x14 14), (nx x14 15), (nx x14 16), (nx v24 0), t69_28] [[]]) fun j16 =>
 prP (bnI .eql (nx v11 0) (.int .i64 0)) fun t45_17 =>
 cndP t45_17 (
 cl2 C 102 impl_eventReader_text.sg [(nx v11 1), (nx v11 2)] [] fun v18 d19 =>
 j16 [a1, a0, (.int .i64 0), (.int .i64 0), (.int .i64 0), (.int .i64 0), (.string { data := #[] }), (.int .i64 0), (.int .i64 0), (.int .i64 0), (nx v18 1), (nx v18 2), (nx v1 0), t27_5, (nx v6 0), t36_10, (nx v18 0), (.int .i64 0), (.int .i64 0)] []) (
 prP (bnI .leq (nx v11 0) (iv (cnt 1 c0))) fun t54_20 =>
 cndP t54_20 (
 prP (bnI .sub (nx v11 0) (.int .i64 1)) fun t58_21 =>
 ixW (cnt 1 c0) t58_21 fun t59_22 =>
 ldc c0 [] ((natOf t59_22) * 1) fun t60_23 =>
 j16 [a1, a0, (.int .i64 0), (.int .i64 0), (.int .i64 0), (.int .i64 0), (.string { data := #[] }), (.int .i64 0), (.int .i64 0), (.int .i64 0), (nx v11 1), (nx v11 2), (nx v1 0), t27_5, (nx v6 0), t36_10, t60_23, (.int .i64 0), (.int .i64 0)] []) (
 j16 [a1, a0, (.int .i64 0), (.int .i64 0), (.int .i64 0), (.int .i64 0), (.string { data := #[] }), (.int .i64 0), (.int .i64 0), (.int .i64 0), (nx v11 1), (.bool true), (nx v1 0), t27_5, (nx v6 0), t36_10, (.string { data := #[] }), (.int .i64 0), (.int .i64 0)] []))
theorem impl_ReadEvent.cl2 {w0 : World} {a0 a1 : Value} {c0 : List T} {K : J2} (h : impl_ReadEvent.txt ⟨Try.prog, w0⟩ a0 a1 c0 K) : Eng.cl2 ⟨Try.prog, w0⟩ 35 impl_ReadEvent.sg [a0, a1] [c0] K :=
  cl2_of_run (C := ⟨Try.prog, w0⟩) (f := 35) (fn := Try.f35) [(100, impl_eventReader_signed.sg), (101, impl_eventReader_num.sg), (102, impl_eventReader_text.sg), (51, impl_ShowEvent.sg), (103, impl_copyPen.sg)] [(5, [0, 1, 0, 4, 15, 31, 63]), (7, [0, 1, 0, 4, 15, 31, 63]), (15, [0, 1, 0, 4, 15, 31, 63]), (26, [0, 0, 0, 1, 11, 31, 63])] [(1023, ⟨[.v, .p (.j 0) 0, .p (.j 1) 0, .p (.j 2) 0, .p (.j 3) 0, .p (.j 4) 0, .p (.j 5) 0, .p (.j 6) 0], [], [.bx [.v, .t (.f 0) 1], .bx [.v, .v, .v, .v, .v], .bx [.v, .v, .z], .bx [.v, .z], .bx [.v, .v], .bx [.v, .v, .v, .v, .v], .bx [.v, .v, .z]]⟩), (262138, ⟨[.v, .p (.j 0) 0, .p (.j 1) 0, .p (.j 2) 0, .p (.j 3) 0, .p (.j 4) 0, .p (.j 5) 0, .p (.j 6) 0, .v, .v, .v], [], [.bx [.v, .t (.f 0) 1], .bx [.v, .v, .v, .v, .v], .bx [.v, .v, .z], .bx [.v, .z], .bx [.v, .v], .bx [.v, .v, .v, .v, .v], .bx [.v, .v, .t (.j 7) 1], .ls]⟩)] Try.func35 (by kernel_rfl) (by kernel_rfl) (by kernel_rfl) h
/-- laws.eqPen -/
def laws_eqPen.sg : Sg := ⟨[(1, [.v, .t 1 0]), (1, [.v, .t 1 0])], [(0, [.v])], []⟩
def laws_eqPen.txt (C : Ctx) (a0 a1 : Value) (c0 c1 : List T) (K : J2) : Prop :=
 prP (bnI .neq a0 a1) fun t9_1 =>
 cndP t9_1 (
 K [(.bool false)] []) (
 cl2 C 87 laws_eqStringS.sg [] [c0, c1] fun v2 d3 =>
 prP (un .not (nx v2 0)) fun t15_5 =>
 cndP t15_5 (
 K [(.bool false)] []) (
 K [(.bool true)] []))
theorem laws_eqPen.cl2 {w0 : World} {a0 a1 : Value} {c0 c1 : List T} {K : J2} (h : laws_eqPen.txt ⟨Try.prog, w0⟩ a0 a1 c0 c1 K) : Eng.cl2 ⟨Try.prog, w0⟩ 38 laws_eqPen.sg [a0, a1] [c0, c1] K :=
  cl2_of_run (C := ⟨Try.prog, w0⟩) (f := 38) (fn := Try.f38) [(87, laws_eqStringS.sg)] [] [] Try.func38 (by kernel_rfl) (by kernel_rfl) (by kernel_rfl) h
/-- laws.markPen -/
def laws_markPen.sg : Sg := ⟨[(1, [.v, .t 1 1]), (0, [.v])], [(0, [.v])], []⟩
def laws_markPen.txt (C : Ctx) (a0 a1 : Value) (c0 : List T) (K : J2) : Prop :=
 cl2 C 90 laws_markStringS.sg [a1] [c0] fun v1 d2 =>
 K [(nx v1 0)] [(nxc d2 0)]
theorem laws_markPen.cl2 {w0 : World} {a0 a1 : Value} {c0 : List T} {K : J2} (h : laws_markPen.txt ⟨Try.prog, w0⟩ a0 a1 c0 K) : Eng.cl2 ⟨Try.prog, w0⟩ 39 laws_markPen.sg [a0, a1] [c0] K :=
  cl2_of_run (C := ⟨Try.prog, w0⟩) (f := 39) (fn := Try.f39) [(90, laws_markStringS.sg)] [] [] Try.func39 (by kernel_rfl) (by kernel_rfl) (by kernel_rfl) h
/-- laws.markAnswer -/
def laws_markAnswer.sg : Sg := ⟨[(1, [.v, .v, .t 1 1]), (0, [.v])], [(0, [.v])], []⟩
def laws_markAnswer.txt (C : Ctx) (a0 a1 a2 : Value) (c0 : List T) (K : J2) : Prop :=
 cl2 C 20 laws_markIntS.sg [a2] [c0] fun v1 d2 =>
 K [(nx v1 0)] [(nxc d2 0)]
theorem laws_markAnswer.cl2 {w0 : World} {a0 a1 a2 : Value} {c0 : List T} {K : J2} (h : laws_markAnswer.txt ⟨Try.prog, w0⟩ a0 a1 a2 c0 K) : Eng.cl2 ⟨Try.prog, w0⟩ 40 laws_markAnswer.sg [a0, a1, a2] [c0] K :=
  cl2_of_run (C := ⟨Try.prog, w0⟩) (f := 40) (fn := Try.f40) [(20, laws_markIntS.sg)] [] [] Try.func40 (by kernel_rfl) (by kernel_rfl) (by kernel_rfl) h
/-- laws.heldAnswer -/
def laws_heldAnswer.sg : Sg := ⟨[(1, [.v, .v, .t 1 0]), (0, [.v])], [(0, [.v])], []⟩
def laws_heldAnswer.txt (C : Ctx) (a0 a1 a2 : Value) (c0 : List T) (K : J2) : Prop :=
 cl2 C 21 laws_heldIntS.sg [a2] [c0] fun v1 d2 =>
 prP (bnI .lss (nx v1 0) (.int .i64 0)) fun t10_4 =>
 cndP t10_4 (
 K [(.int .i64 (-1))] []) (
 K [(nx v1 0)] [])
theorem laws_heldAnswer.cl2 {w0 : World} {a0 a1 a2 : Value} {c0 : List T} {K : J2} (h : laws_heldAnswer.txt ⟨Try.prog, w0⟩ a0 a1 a2 c0 K) : Eng.cl2 ⟨Try.prog, w0⟩ 41 laws_heldAnswer.sg [a0, a1, a2] [c0] K :=
  cl2_of_run (C := ⟨Try.prog, w0⟩) (f := 41) (fn := Try.f41) [(21, laws_heldIntS.sg)] [] [] Try.func41 (by kernel_rfl) (by kernel_rfl) (by kernel_rfl) h
/-- laws.heldStringS -/
def laws_heldStringS.sg : Sg := ⟨[(0, [.t 1 0]), (0, [.v])], [(0, [.v])], []⟩
def laws_heldStringS.txt (C : Ctx) (a0 : Value) (c0 : List T) (K : J2) : Prop :=
 loopP (fun r3 x1 k2 =>
 prP (bnI .lss (nx x1 1) (iv (cnt 1 c0))) fun t9_5 =>
 cndP t9_5 (
 ixW (cnt 1 c0) (nx x1 1) fun t14_6 =>
 ldc c0 [] ((natOf t14_6) * 1) fun t15_7 =>
 cl2 C 107 laws_markText.sg [(nx x1 0)] [] fun v8 d9 =>
 prP (bnS .neq t15_7 (nx v8 0)) fun t18_11 =>
 cndP t18_11 (
 K [(.int .i64 (-1))] []) (
 prP (bnI .add (nx x1 0) (.int .i64 1)) fun t20_12 =>
 prP (bnI .add (nx x1 1) (.int .i64 1)) fun t11_13 =>
 r3 [t20_12, t11_13] [])) (
 K [(nx x1 0)] [])) [a0, (.int .i64 0)] []
theorem laws_heldStringS.cl2 {w0 : World} {a0 : Value} {c0 : List T} {K : J2} (h : laws_heldStringS.txt ⟨Try.prog, w0⟩ a0 c0 K) : Eng.cl2 ⟨Try.prog, w0⟩ 104 laws_heldStringS.sg [a0] [c0] K :=
  cl2_of_run (C := ⟨Try.prog, w0⟩) (f := 104) (fn := Try.f104) [(107, laws_markText.sg)] [(4, [0, 0, 3, 7, 0, 16, 63])] [(26, ⟨[.t (.f 0) 1, .v, .v], [], []⟩)] Try.func104 (by kernel_rfl) (by kernel_rfl) (by kernel_rfl) h
/-- laws.heldPen -/
def laws_heldPen.sg : Sg := ⟨[(1, [.v, .t 1 0]), (0, [.v])], [(0, [.v])], []⟩
def laws_heldPen.txt (C : Ctx) (a0 a1 : Value) (c0 : List T) (K : J2) : Prop :=
 cl2 C 104 laws_heldStringS.sg [a1] [c0] fun v1 d2 =>
 prP (bnI .lss (nx v1 0) (.int .i64 0)) fun t10_4 =>
 cndP t10_4 (
 K [(.int .i64 (-1))] []) (
 K [(nx v1 0)] [])
theorem laws_heldPen.cl2 {w0 : World} {a0 a1 : Value} {c0 : List T} {K : J2} (h : laws_heldPen.txt ⟨Try.prog, w0⟩ a0 a1 c0 K) : Eng.cl2 ⟨Try.prog, w0⟩ 42 laws_heldPen.sg [a0, a1] [c0] K :=
  cl2_of_run (C := ⟨Try.prog, w0⟩) (f := 42) (fn := Try.f42) [(104, laws_heldStringS.sg)] [] [] Try.func42 (by kernel_rfl) (by kernel_rfl) (by kernel_rfl) h
/-- laws.FnExactReadEvent -/
def laws_FnExactReadEvent.sg : Sg := ⟨[(1, [.v, .t 1 0]), (0, [.v])], [(0, [.v])], []⟩
def laws_FnExactReadEvent.txt (C : Ctx) (a0 a1 : Value) (c0 : List T) (K : J2) : Prop :=
 prP (lnS a1) fun t23_1 =>
 prP (bnI .gtr t23_1 (.int .i64 1048576)) fun t24_2 =>
 cndP t24_2 (
 K [(.bool true)] []) (
 cl2 C 32 laws_szPen.sg [a0, (.int .i64 1048576)] [c0] fun v3 d4 =>
 prP (bnI .lss (nx v3 0) (.int .i64 0)) fun t29_6 =>
 cndP t29_6 (
 K [(.bool true)] []) (
 cl2 C 34 laws_toPen.sg [a0] [c0] fun v7 d8 =>
 cl2 C 33 spec_ReadEvent.sg [(nx v7 0), a1] [(nxc d8 0)] fun v9 d10 =>
 cl2 C 34 laws_toPen.sg [a0] [c0] fun v11 d12 =>
 cl2 C 35 impl_ReadEvent.sg [(nx v11 0), a1] [(nxc d12 0)] fun v13 d14 =>
 cl2 C 36 laws_eqOp.sg [(nx v13 0), (nx v13 1), (nx v13 2), (nx v13 3), (nx v13 4), (nx v9 0), (nx v9 1), (nx v9 2), (nx v9 3), (nx v9 4)] [] fun v15 d16 =>
 prP (un .not (nx v15 0)) fun t52_18 =>
 gE t52_18 (
 gE t52_18 (
 gP t52_18 false ((fun K => cl2 C 37 laws_eqAnswer.sg [(nx v13 5), (nx v13 6), (nx v9 5), (nx v9 6)] [(nxc d14 0), (nxc d10 0)] fun v19 d20 => K (nx v19 0))) fun t56_21 =>
 gP t52_18 false (prP (un .not t56_21)) fun t57_22 =>
 prP (pk t52_18 (.bool true) t57_22) fun t58_23 =>
 gE t58_23 (
 gE t58_23 (
 gP t58_23 false ((fun K => cl2 C 38 laws_eqPen.sg [(nx v13 7), (nx v9 7)] [(nxc d14 1), (nxc d10 1)] fun v24 d25 => K (nx v24 0))) fun t62_26 =>
 gP t58_23 false (prP (un .not t62_26)) fun t63_27 =>
 prP (pk t58_23 (.bool true) t63_27) fun t64_28 =>
 gE t64_28 (
 gE t64_28 (
 gP t64_28 false (prP (bnB .neq (nx v13 8) (nx v9 8))) fun t68_29 =>
 prP (pk t64_28 (.bool true) t68_29) fun t69_30 =>
 cndP t69_30 (
 K [(.bool false)] []) (
 cl2 C 34 laws_toPen.sg [a0] [c0] fun v31 d32 =>
 cl2 C 38 laws_eqPen.sg [(nx v11 0), (nx v31 0)] [(nxc d12 0), (nxc d32 0)] fun v33 d34 =>
 prP (un .not (nx v33 0)) fun t74_36 =>
 cndP t74_36 (
 K [(.bool false)] []) (
 cl2 C 39 laws_markPen.sg [(nx v11 0), (.int .i64 1)] [(nxc d12 0)] fun v37 d38 =>
 prP (bnI .lss (nx v37 0) (.int .i64 0)) fun t79_39 =>
 gE t79_39 (
 gE t79_39 (
 gP t79_39 false ((fun K => cl2 C 36 laws_eqOp.sg [(nx v13 0), (nx v13 1), (nx v13 2), (nx v13 3), (nx v13 4), (nx v9 0), (nx v9 1), (nx v9 2), (nx v9 3), (nx v9 4)] [] fun v40 d41 => K (nx v40 0))) fun t83_42 =>
 gP t79_39 false (prP (un .not t83_42)) fun t84_43 =>
 prP (pk t79_39 (.bool true) t84_43) fun t85_44 =>
 gE t85_44 (
 gE t85_44 (
 gP t85_44 false ((fun K => cl2 C 37 laws_eqAnswer.sg [(nx v13 5), (nx v13 6), (nx v9 5), (nx v9 6)] [(nxc d14 0), (nxc d10 0)] fun v45 d46 => K (nx v45 0))) fun t89_47 =>
 gP t85_44 false (prP (un .not t89_47)) fun t90_48 =>
 prP (pk t85_44 (.bool true) t90_48) fun t91_49 =>
 gE t91_49 (
 gE t91_49 (
 gP t91_49 false ((fun K => cl2 C 38 laws_eqPen.sg [(nx v13 7), (nx v9 7)] [(nxc d14 1), (nxc d10 1)] fun v50 d51 => K (nx v50 0))) fun t95_52 =>
 gP t91_49 false (prP (un .not t95_52)) fun t96_53 =>
 prP (pk t91_49 (.bool true) t96_53) fun t97_54 =>
 gE t97_54 (
 gE t97_54 (
 gP t97_54 false (prP (bnB .neq (nx v13 8) (nx v9 8))) fun t101_55 =>
 prP (pk t97_54 (.bool true) t101_55) fun t102_56 =>
 cndP t102_56 (
 K [(.bool false)] []) (
 cl2 C 40 laws_markAnswer.sg [(nx v13 5), (nx v13 6), (.int .i64 1)] [(nxc d14 0)] fun v57 d58 =>
 cl2 C 39 laws_markPen.sg [(nx v13 7), (nx v57 0)] [(nxc d14 1)] fun v59 d60 =>
 cl2 C 41 laws_heldAnswer.sg [(nx v13 5), (nx v13 6), (.int .i64 1)] [(nxc d58 0)] fun v61 d62 =>
 prP (bnI .lss (nx v61 0) (.int .i64 0)) fun t113_64 =>
 cndP t113_64 (
 K [(.bool false)] []) (
 cl2 C 42 laws_heldPen.sg [(nx v13 7), (nx v61 0)] [(nxc d60 0)] fun v65 d66 =>
 prP (bnI .lss (nx v65 0) (.int .i64 0)) fun t118_68 =>
 cndP t118_68 (
 K [(.bool false)] []) (
 prP (bnI .neq (nx v65 0) (nx v59 0)) fun t121_69 =>
 cndP t121_69 (
 K [(.bool false)] []) (
 cl2 C 34 laws_toPen.sg [a0] [c0] fun v70 d71 =>
 cl2 C 35 impl_ReadEvent.sg [(nx v70 0), a1] [(nxc d71 0)] fun v72 d73 =>
 cl2 C 36 laws_eqOp.sg [(nx v72 0), (nx v72 1), (nx v72 2), (nx v72 3), (nx v72 4), (nx v9 0), (nx v9 1), (nx v9 2), (nx v9 3), (nx v9 4)] [] fun v74 d75 =>
 prP (un .not (nx v74 0)) fun t134_77 =>
 gE t134_77 (
 gE t134_77 (
 gP t134_77 false ((fun K => cl2 C 37 laws_eqAnswer.sg [(nx v72 5), (nx v72 6), (nx v9 5), (nx v9 6)] [(nxc d73 0), (nxc d10 0)] fun v78 d79 => K (nx v78 0))) fun t138_80 =>
 gP t134_77 false (prP (un .not t138_80)) fun t139_81 =>
 prP (pk t134_77 (.bool true) t139_81) fun t140_82 =>
 gE t140_82 (
 gE t140_82 (
 gP t140_82 false ((fun K => cl2 C 38 laws_eqPen.sg [(nx v72 7), (nx v9 7)] [(nxc d73 1), (nxc d10 1)] fun v83 d84 => K (nx v83 0))) fun t144_85 =>
 gP t140_82 false (prP (un .not t144_85)) fun t145_86 =>
 prP (pk t140_82 (.bool true) t145_86) fun t146_87 =>
 gE t146_87 (
 gE t146_87 (
 gP t146_87 false (prP (bnB .neq (nx v72 8) (nx v9 8))) fun t150_88 =>
 prP (pk t146_87 (.bool true) t150_88) fun t151_89 =>
 cndP t151_89 (
 K [(.bool false)] []) (
 cl2 C 41 laws_heldAnswer.sg [(nx v13 5), (nx v13 6), (.int .i64 1)] [(nxc d58 0)] fun v90 d91 =>
 prP (bnI .lss (nx v90 0) (.int .i64 0)) fun t156_93 =>
 cndP t156_93 (
 K [(.bool false)] []) (
 cl2 C 42 laws_heldPen.sg [(nx v13 7), (nx v90 0)] [(nxc d60 0)] fun v94 d95 =>
 prP (bnI .lss (nx v94 0) (.int .i64 0)) fun t161_97 =>
 cndP t161_97 (
 K [(.bool false)] []) (
 prP (bnI .neq (nx v94 0) (nx v59 0)) fun t164_98 =>
 cndP t164_98 (
 K [(.bool false)] []) (
 K [(.bool true)] []))))))))))))))))))))))))))))))))
theorem laws_FnExactReadEvent.cl2 {w0 : World} {a0 a1 : Value} {c0 : List T} {K : J2} (h : laws_FnExactReadEvent.txt ⟨Try.prog, w0⟩ a0 a1 c0 K) : Eng.cl2 ⟨Try.prog, w0⟩ 6 laws_FnExactReadEvent.sg [a0, a1] [c0] K :=
  cl2_of_run (C := ⟨Try.prog, w0⟩) (f := 6) (fn := Try.f6) [(32, laws_szPen.sg), (34, laws_toPen.sg), (33, spec_ReadEvent.sg), (35, impl_ReadEvent.sg), (36, laws_eqOp.sg), (37, laws_eqAnswer.sg), (38, laws_eqPen.sg), (39, laws_markPen.sg), (40, laws_markAnswer.sg), (41, laws_heldAnswer.sg), (42, laws_heldPen.sg)] [(12, [0, 0, 2, 7, 15])] [] Try.func6 (by kernel_rfl) (by kernel_rfl) (by kernel_rfl) h
/-- stringslite.HasPrefix -/
def stringslite_HasPrefix.sg : Sg := ⟨[(0, [.v]), (0, [.v])], [(0, [.v])], []⟩
def stringslite_HasPrefix.txt (C : Ctx) (a0 a1 : Value) (K : J2) : Prop :=
 prP (lnS a0) fun t6_1 =>
 prP (lnS a1) fun t8_2 =>
 prP (bnI .geq t6_1 t8_2) fun t9_3 =>
 gE t9_3 (
 gE t9_3 (
 gP t9_3 true (prP (lnS a1)) fun t13_4 =>
 gP t9_3 true (prP (scS a0 none (some t13_4))) fun t14_5 =>
 gE t9_3 (
 gP t9_3 true (prP (bnS .eql t14_5 a1)) fun t16_6 =>
 prP (pk t9_3 t16_6 (.bool false)) fun t17_7 =>
 K [t17_7] [])))
theorem stringslite_HasPrefix.cl2 {w0 : World} {a0 a1 : Value} {K : J2} (h : stringslite_HasPrefix.txt ⟨Try.prog, w0⟩ a0 a1 K) : Eng.cl2 ⟨Try.prog, w0⟩ 230 stringslite_HasPrefix.sg [a0, a1] [] K :=
  cl2_of_run (C := ⟨Try.prog, w0⟩) (f := 230) (fn := Try.f230) [] [] [] Try.func230 (by kernel_rfl) (by kernel_rfl) (by kernel_rfl) h
/-- stringslite.CutPrefix -/
def stringslite_CutPrefix.sg : Sg := ⟨[(0, [.v]), (0, [.v])], [(0, [.v]), (0, [.v])], []⟩
def stringslite_CutPrefix.txt (C : Ctx) (a0 a1 : Value) (K : J2) : Prop :=
 cl2 C 230 stringslite_HasPrefix.sg [a0, a1] [] fun v1 d2 =>
 prP (un .not (nx v1 0)) fun t9_4 =>
 cndP t9_4 (
 K [a0, (.bool false)] []) (
 prP (lnS a1) fun t13_5 =>
 prP (scS a0 (some t13_5) none) fun t14_6 =>
 K [t14_6, (.bool true)] [])
theorem stringslite_CutPrefix.cl2 {w0 : World} {a0 a1 : Value} {K : J2} (h : stringslite_CutPrefix.txt ⟨Try.prog, w0⟩ a0 a1 K) : Eng.cl2 ⟨Try.prog, w0⟩ 210 stringslite_CutPrefix.sg [a0, a1] [] K :=
  cl2_of_run (C := ⟨Try.prog, w0⟩) (f := 210) (fn := Try.f210) [(230, stringslite_HasPrefix.sg)] [] [] Try.func210 (by kernel_rfl) (by kernel_rfl) (by kernel_rfl) h
end Go.Proofs.Ytnhicpkhkaihoaa.P
