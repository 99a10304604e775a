/- A part of the proof. -/
import Derived.Test.YtnhicpkhkaihoaaChecked
import Derived.Test.YtnhicpkhkaihoaaCgPZ4
import Derived.KernelRfl
/- The functions of the code as the pure engine's texts, printed by my program gen2.py: each with its call. -/
namespace Go.Proofs.Ytnhicpkhkaihoaa.P
open Go Go.Proofs.Ytnhicpkhkaihoaa Go.Proofs.Ytnhicpkhkaihoaa.Eng
set_option linter.unusedVariables false
set_option maxRecDepth 100000
/-- impl.Trial).scan -/
def impl_Trial_scan.sg : Sg := ⟨[(2, [.t 1 2, .t 1 2]), (1, [.t 8 0, .t 2 0, .t 1 0, .t 1 0]), (0, [.v])], [], [[.t 1, .t 1]]⟩
def impl_Trial_scan.txt (C : Ctx) (a0 : Value) (c0 c1 c2 c3 c4 c5 : List T) (K : J2) : Prop :=
 ixW (cnt 1 c1) a0 fun t13_1 =>
 ldc c1 [] ((natOf t13_1) * 1) fun t14_2 =>
 prP (bnI .neq t14_2 (.int .i64 1)) fun t15_3 =>
 cndP t15_3 (
 K [] [c0, c1]) (
 ixW (cnt 1 c0) a0 fun t21_4 =>
 ldc c0 [] ((natOf t21_4) * 1) fun t22_5 =>
 prP (bnI .gtr t22_5 (.int .i64 0)) fun t23_6 =>
 cndP t23_6 (
 cl2 C 235 impl_Trial_paint.sg [a0, (.int .i64 0), (.int .i64 1)] [c0, c1, c2, c3, c4, c5] fun v7 d8 =>
 K [] [(nxc d8 0), (nxc d8 1)]) (
 ixW (cnt 1 c1) a0 fun t33_9 =>
 stc c1 [] ((natOf t33_9) * 1) (.int .i64 2) fun k10 =>
 cl2 C 237 impl_leadsTo.sg [a0] [c2, c3, c4, c5] fun v11 d12 =>
 loopP (fun r15 x13 k14 =>
 prP (bnI .lss (nx x13 1) (nx x13 0)) fun t39_17 =>
 cndP t39_17 (
 ixW (cnt 1 (nxc k14 0)) (nx x13 1) fun t40_18 =>
 ldc (nxc k14 0) [] ((natOf t40_18) * 1) fun t41_19 =>
 cl2 C 236 impl_Trial_scan.sg [t41_19] [(nxc k14 1), (nxc k14 2), c2, c3, c4, c5] fun v20 d21 =>
 prP (bnI .add (nx x13 1) (.int .i64 1)) fun t46_22 =>
 r15 [(nx x13 0), t46_22] [(nxc k14 0), (nxc d21 0), (nxc d21 1)]) (
 K [] [(nxc k14 1), (nxc k14 2)])) [(iv (cnt 1 (nxc d12 0))), (.int .i64 0)] [(nxc d12 0), c0, k10]))
theorem impl_Trial_scan.cl2 {w0 : World} {a0 : Value} {c0 c1 c2 c3 c4 c5 : List T} {K : J2} (h : impl_Trial_scan.txt ⟨Try.prog, w0⟩ a0 c0 c1 c2 c3 c4 c5 K) : Eng.cl2 ⟨Try.prog, w0⟩ 236 impl_Trial_scan.sg [a0] [c0, c1, c2, c3, c4, c5] K :=
  cl2_of_run (C := ⟨Try.prog, w0⟩) (f := 236) (fn := Try.f236) [(235, impl_Trial_paint.sg), (237, impl_leadsTo.sg), (236, impl_Trial_scan.sg)] [] [(126, ⟨[.p (.j 0) 0, .p (.j 1) 0, .t (.j 2) 1, .v, .v], [.p (.j 0) 0], [.bx [.t (.j 3) 1, .t (.j 4) 1], .bx [.t (.f 0) 8, .t (.f 1) 2, .t (.f 2) 1, .t (.f 3) 1], .ls, .ls, .ls]⟩)] Try.func236 (by kernel_rfl) (by kernel_rfl) (by kernel_rfl) h
/-- impl.ScanFrom -/
def impl_ScanFrom.sg : Sg := ⟨[(1, [.t 8 0, .t 2 0, .t 1 0, .t 1 0]), (1, [.t 1 0, .t 1 0]), (0, [.v])], [(1, [.t 1, .t 1])], []⟩
def impl_ScanFrom.txt (C : Ctx) (a0 : Value) (c0 c1 c2 c3 c4 c5 : List T) (K : J2) : Prop :=
 cl2 C 233 impl_copyTrial.sg [] [c4, c5] fun v1 d2 =>
 joinP (fun x4 k5 =>
 K [] [(nxc k5 0), (nxc k5 1)]) fun j6 =>
 cl2 C 234 impl_canTry.sg [a0] [c0, c1, c2, c3, c4, c5] fun v7 d8 =>
 cndP (nx v7 0) (
 cl2 C 236 impl_Trial_scan.sg [a0] [(nxc d2 0), (nxc d2 1), c0, c1, c2, c3] fun v10 d11 =>
 j6 [] [(nxc d11 0), (nxc d11 1)]) (
 j6 [] [(nxc d2 0), (nxc d2 1)])
theorem impl_ScanFrom.cl2 {w0 : World} {a0 : Value} {c0 c1 c2 c3 c4 c5 : List T} {K : J2} (h : impl_ScanFrom.txt ⟨Try.prog, w0⟩ a0 c0 c1 c2 c3 c4 c5 K) : Eng.cl2 ⟨Try.prog, w0⟩ 221 impl_ScanFrom.sg [a0] [c0, c1, c2, c3, c4, c5] K :=
  cl2_of_run (C := ⟨Try.prog, w0⟩) (f := 221) (fn := Try.f221) [(233, impl_copyTrial.sg), (234, impl_canTry.sg), (236, impl_Trial_scan.sg)] [] [(7, ⟨[.p (.j 0) 0, .p (.j 1) 0], [], [.bx [.z, .z], .bx [.t (.j 2) 1, .t (.j 3) 1], .ls, .ls]⟩)] Try.func221 (by kernel_rfl) (by kernel_rfl) (by kernel_rfl) h
/-- impl.Whites -/
def impl_Whites.sg : Sg := ⟨[(1, [.t 1 0, .t 1 0])], [(0, [.t 1])], []⟩
def impl_Whites.txt (C : Ctx) (c0 c1 : List T) (K : J2) : Prop :=
 loopP (fun r3 x1 k2 =>
 prP (bnI .lss (nx x1 1) (nx x1 0)) fun t10_15 =>
 cndP t10_15 (
 joinP (fun x17 k18 =>
 prP (bnI .add (nx x17 1) (.int .i64 1)) fun t20_23 =>
 r3 [(nx x17 0), t20_23] [(nxc k18 0)]) fun j19 =>
 ixW (cnt 1 c1) (nx x1 1) fun t12_20 =>
 ldc c1 [] ((natOf t12_20) * 1) fun t13_21 =>
 prP (bnI .eql t13_21 (.int .i64 2)) fun t15_22 =>
 cndP t15_22 (
 apW [T.c (nx x1 1)] true (cnt 1 (nxc k2 0)) (cnt 1 [T.c (nx x1 1)]) 8 (
 j19 [(nx x1 0), (nx x1 1)] [((nxc k2 0) ++ [T.c (nx x1 1)])])) (
 j19 [(nx x1 0), (nx x1 1)] [(nxc k2 0)])) (
 K [] [(nxc k2 0)])) [(iv (cnt 1 c1)), (.int .i64 0)] [[]]
theorem impl_Whites.cl2 {w0 : World} {c0 c1 : List T} {K : J2} (h : impl_Whites.txt ⟨Try.prog, w0⟩ c0 c1 K) : Eng.cl2 ⟨Try.prog, w0⟩ 222 impl_Whites.sg [] [c0, c1] K :=
  cl2_of_run (C := ⟨Try.prog, w0⟩) (f := 222) (fn := Try.f222) [] [] [(467, ⟨[.t (.j 0) 1, .t (.f 1) 1, .v, .v], [], [.ls]⟩), (58, ⟨[.t (.j 0) 1, .t (.f 1) 1, .v, .v], [], [.ls]⟩)] Try.func222 (by kernel_rfl) (by kernel_rfl) (by kernel_rfl) h
/-- impl.Collect -/
def impl_Collect.sg : Sg := ⟨[(1, [.t 8 0, .t 2 0, .t 1 0, .t 1 0])], [(1, [.t 8, .t 2, .t 1, .t 1]), (0, [.t 1])], []⟩
def impl_Collect.txt (C : Ctx) (c0 c1 c2 c3 : List T) (K : J2) : Prop :=
 cl2 C 141 impl_copyHeap.sg [] [c0, c1, c2, c3] fun v1 d2 =>
 prP (bnI .neq (iv (cnt 8 c0)) (.int .i64 8)) fun t20_3 =>
 cndP t20_3 (
 K [] [(nxc d2 0), (nxc d2 1), (nxc d2 2), (nxc d2 3), []]) (
 cl2 C 219 impl_TrialNew.sg [] [c0, c1, c2, c3] fun v4 d5 =>
 loopP (fun r8 x6 k7 =>
 prP (bnI .lss (nx x6 1) (nx x6 0)) fun t28_10 =>
 cndP t28_10 (
 ixW (cnt 1 c2) (nx x6 1) fun t29_11 =>
 ldc c2 [] ((natOf t29_11) * 1) fun t30_12 =>
 cl2 C 92 impl_SlotOf.sg [t30_12] [c0, c1, c2, c3] fun v13 d14 =>
 cl2 C 220 impl_MarkGray.sg [(nx v13 0)] [c0, c1, c2, c3, (nxc k7 4), (nxc k7 5)] fun v16 d17 =>
 prP (bnI .add (nx x6 1) (.int .i64 1)) fun t37_18 =>
 r8 [(nx x6 0), t37_18] [(nxc k7 0), (nxc k7 1), (nxc k7 2), (nxc k7 3), (nxc d17 0), (nxc d17 1)]) (
 loopP (fun r21 x19 k20 =>
 prP (bnI .lss (nx x19 1) (nx x19 0)) fun t42_23 =>
 cndP t42_23 (
 ixW (cnt 1 c2) (nx x19 1) fun t43_24 =>
 ldc c2 [] ((natOf t43_24) * 1) fun t44_25 =>
 cl2 C 92 impl_SlotOf.sg [t44_25] [c0, c1, c2, c3] fun v26 d27 =>
 cl2 C 221 impl_ScanFrom.sg [(nx v26 0)] [c0, c1, c2, c3, (nxc k20 4), (nxc k20 5)] fun v29 d30 =>
 prP (bnI .add (nx x19 1) (.int .i64 1)) fun t51_31 =>
 r21 [(nx x19 0), t51_31] [(nxc k20 0), (nxc k20 1), (nxc k20 2), (nxc k20 3), (nxc d30 0), (nxc d30 1)]) (
 cl2 C 222 impl_Whites.sg [] [(nxc k20 4), (nxc k20 5)] fun v32 d33 =>
 loopP (fun r36 x34 k35 =>
 prP (bnI .lss (nx x34 1) (nx x34 0)) fun t56_75 =>
 cndP t56_75 (
 ixW (cnt 1 (nxc k35 1)) (nx x34 1) fun t57_76 =>
 ldc (nxc k35 1) [] ((natOf t57_76) * 1) fun t58_77 =>
 ixW (cnt 8 c0) t58_77 fun t64_78 =>
 ldc c0 [] (((natOf t64_78) * 8) + 1) fun t66_79 =>
 cl2 C 84 impl_IdOf.sg [t58_77, t66_79] [] fun v80 d81 =>
 apW [T.c (nx v80 0)] true (cnt 1 (nxc k35 0)) (cnt 1 [T.c (nx v80 0)]) 8 (
 ixW (cnt 8 c0) t58_77 fun t76_83 =>
 ldc c0 [] (((natOf t76_83) * 8) + 1) fun t78_84 =>
 cl2 C 182 impl_free.sg [t78_84] [] fun v85 d86 =>
 ixW (cnt 8 (nxc k35 2)) t58_77 fun t80_87 =>
 stg (nxc k35 2) [] ((natOf t80_87) * 8) [T.c (nx v85 0), T.c (nx v85 1), T.c (nx v85 2), T.c (nx v85 3), T.c (nx v85 4), T.c (nx v85 5), T.l 1 (nxc d86 0), T.c (nx v85 6)] fun k88 =>
 prP (bnI .add (nx x34 1) (.int .i64 1)) fun t81_89 =>
 r36 [(nx x34 0), t81_89] [((nxc k35 0) ++ [T.c (nx v80 0)]), (nxc k35 1), k88, (nxc k35 3), (nxc k35 4), (nxc k35 5)])) (
 loopP (fun r92 x90 k91 =>
 prP (bnI .lss (nx x90 1) (nx x90 0)) fun t86_94 =>
 cndP t86_94 (
 joinP (fun x96 k97 =>
 prP (bnI .add (nx x96 1) (.int .i64 1)) fun t115_110 =>
 r92 [(nx x96 0), t115_110] [(nxc k97 0), (nxc k97 1), (nxc k97 2), (nxc k97 3), (nxc k97 4)]) fun j98 =>
 ixW (cnt 8 (nxc k91 1)) (nx x90 1) fun t91_99 =>
 stc (nxc k91 1) [] (((natOf t91_99) * 8) + 7) (.bool false) fun k100 =>
 ldc k100 [] ((natOf t91_99) * 8) fun t98_101 =>
 cndP t98_101 (
 ldc k100 [] (((natOf t91_99) * 8) + 3) fun t103_102 =>
 ldc k100 [] (((natOf t91_99) * 8) + 4) fun t107_103 =>
 prP (bnI .add t103_102 t107_103) fun t108_104 =>
 cl2 C 223 impl_InEdges.sg [(nx x90 1)] [k100, (nxc k91 2), (nxc k91 3), (nxc k91 4)] fun v105 d106 =>
 prP (bnI .add t108_104 (nx v105 0)) fun t112_108 =>
 stc k100 [] (((natOf t91_99) * 8) + 5) t112_108 fun k109 =>
 j98 [(nx x90 0), (nx x90 1)] [(nxc k91 0), k109, (nxc k91 2), (nxc k91 3), (nxc k91 4)]) (
 j98 [(nx x90 0), (nx x90 1)] [(nxc k91 0), k100, (nxc k91 2), (nxc k91 3), (nxc k91 4)])) (
 K [] [(nxc k91 1), (nxc k91 2), [], (nxc k91 4), (nxc k91 0)])) [(iv (cnt 8 (nxc k35 2))), (.int .i64 0)] [(nxc k35 0), (nxc k35 2), (nxc k35 3), (nxc k35 4), (nxc k35 5)])) [(iv (cnt 1 (nxc d33 0))), (.int .i64 0)] [[], (nxc d33 0), (nxc k20 0), (nxc k20 1), (nxc k20 2), (nxc k20 3)])) [(iv (cnt 1 c2)), (.int .i64 0)] [(nxc k7 0), (nxc k7 1), (nxc k7 2), (nxc k7 3), (nxc k7 4), (nxc k7 5)])) [(iv (cnt 1 c2)), (.int .i64 0)] [(nxc d2 0), (nxc d2 1), (nxc d2 2), (nxc d2 3), (nxc d5 0), (nxc d5 1)])
theorem impl_Collect.cl2 {w0 : World} {c0 c1 c2 c3 : List T} {K : J2} (h : impl_Collect.txt ⟨Try.prog, w0⟩ c0 c1 c2 c3 K) : Eng.cl2 ⟨Try.prog, w0⟩ 188 impl_Collect.sg [] [c0, c1, c2, c3] K :=
  cl2_of_run (C := ⟨Try.prog, w0⟩) (f := 188) (fn := Try.f188) [(141, impl_copyHeap.sg), (219, impl_TrialNew.sg), (92, impl_SlotOf.sg), (220, impl_MarkGray.sg), (221, impl_ScanFrom.sg), (222, impl_Whites.sg), (84, impl_IdOf.sg), (182, impl_free.sg), (223, impl_InEdges.sg)] [(8, [0, 0, 0, 0, 12, 31, 63]), (13, [0, 0, 0, 0, 12, 31, 63]), (20, [0, 1, 0, 0, 8, 0, 56, 120, 248, 504, 1023, 2047]), (28, [0, 0, 2, 6, 14, 0, 32, 96, 224, 510, 0, 0, 3072, 8190, 16383, 32767, 65535])] [(32723, ⟨[.p (.j 0) 0, .p (.j 1) 0, .t (.j 2) 1, .v, .v], [], [.bx [.z, .z, .z, .z], .bx [.t (.j 3) 8, .t (.j 4) 2, .t (.j 5) 1, .t (.j 6) 1], .ls, .ls, .ls, .ls, .ls]⟩), (4090, ⟨[.p (.j 0) 0, .p (.j 1) 0, .t (.j 2) 1, .v, .v], [], [.bx [.z, .z, .z, .z], .bx [.t (.j 3) 8, .t (.j 4) 2, .t (.j 5) 1, .t (.j 6) 1], .ls, .ls, .ls, .ls, .ls]⟩), (2042, ⟨[.p (.j 0) 0, .p (.j 1) 0, .p (.j 2) 0, .t (.j 3) 1, .t (.j 4) 1, .v, .v], [], [.bx [.t (.f 0) 8, .t (.f 1) 2, .t (.f 2) 1, .t (.f 3) 1], .bx [.z, .z, .z, .z], .bx [.t (.j 5) 8, .t (.j 6) 2, .t (.j 7) 1, .t (.j 8) 1], .ls, .ls, .ls, .ls, .ls, .ls]⟩), (506, ⟨[.p (.j 0) 0, .p (.j 1) 0, .p (.j 2) 0, .p (.j 3) 0, .t (.f 2) 1, .v, .v], [], [.bx [.t (.f 0) 8, .t (.f 1) 2, .t (.f 2) 1, .t (.f 3) 1], .bx [.z, .z, .z, .z], .bx [.t (.j 4) 8, .t (.j 5) 2, .t (.j 6) 1, .t (.j 7) 1], .bx [.t (.j 8) 1, .t (.j 9) 1], .ls, .ls, .ls, .ls, .ls, .ls]⟩), (250, ⟨[.p (.j 0) 0, .p (.j 1) 0, .p (.j 2) 0, .p (.j 3) 0, .t (.f 2) 1, .v, .v], [], [.bx [.t (.f 0) 8, .t (.f 1) 2, .t (.f 2) 1, .t (.f 3) 1], .bx [.z, .z, .z, .z], .bx [.t (.j 4) 8, .t (.j 5) 2, .t (.j 6) 1, .t (.j 7) 1], .bx [.t (.j 8) 1, .t (.j 9) 1], .ls, .ls, .ls, .ls, .ls, .ls]⟩)] Try.func188 (by kernel_rfl) (by kernel_rfl) (by kernel_rfl) h
/-- impl.Heap).apply -/
def impl_Heap_apply.sg : Sg := ⟨[(2, [.t 8 2, .t 2 2, .t 1 2, .t 1 2]), (1, [.v, .v, .v, .v, .v])], [(1, [.v, .v, .t 1])], [[.t 8, .t 2, .t 1, .t 1]]⟩
def impl_Heap_apply.txt (C : Ctx) (a0 a1 a2 a3 a4 : Value) (c0 c1 c2 c3 : List T) (K : J2) : Prop :=
 prP (bnI .eql a0 (.int .i64 1)) fun t10_1 =>
 cndP t10_1 (
 cl2 C 183 impl_Heap_alloc.sg [a4] [c0, c1, c2, c3] fun v2 d3 =>
 K [(nx v2 0), (nx v2 1)] [(nxc d3 0), (nxc d3 1), c1, c2, (nxc d3 2)]) (
 joinP (fun x5 k6 =>
 cndP (nx x5 1) (
 cl2 C 184 impl_Heap_counted.sg [(nx x5 2), (nx x5 3)] [(nxc k6 0), (nxc k6 1), (nxc k6 2), (nxc k6 3)] fun v12 d13 =>
 K [(nx v12 0), (nx v12 1)] [(nxc d13 0), (nxc d13 1), (nxc k6 1), (nxc d13 2), (nxc k6 3)]) (
 prP (bnI .eql (nx x5 0) (.int .i64 4)) fun t27_14 =>
 cndP t27_14 (
 cl2 C 185 impl_Heap_store.sg [(nx x5 2), (nx x5 3), (nx x5 4), (nx x5 5), (nx x5 6)] [(nxc k6 0), (nxc k6 1), (nxc k6 2), (nxc k6 3)] fun v15 d16 =>
 K [(nx v15 0), (nx v15 1)] [(nxc d16 0), (nxc d16 1), (nxc k6 1), (nxc d16 2), (nxc k6 3)]) (
 prP (bnI .eql (nx x5 0) (.int .i64 7)) fun t32_17 =>
 cndP t32_17 (
 cl2 C 186 impl_Heap_weak.sg [(nx x5 3)] [(nxc k6 0), (nxc k6 1), (nxc k6 2), (nxc k6 3)] fun v18 d19 =>
 K [(nx v18 0), (nx v18 1)] [(nxc d19 0), (nxc k6 0), (nxc d19 1), (nxc k6 2), (nxc k6 3)]) (
 joinP (fun x21 k22 =>
 cndP (nx x21 1) (
 cl2 C 187 impl_Heap_handle.sg [(nx x21 2), (nx x21 3)] [(nxc k22 0), (nxc k22 1), (nxc k22 2), (nxc k22 3)] fun v26 d27 =>
 K [(nx v26 0), (nx v26 1)] [(nxc d27 0), (nxc k22 0), (nxc d27 1), (nxc k22 2), (nxc k22 3)]) (
 prP (bnI .eql (nx x21 0) (.int .i64 10)) fun t47_28 =>
 cndP t47_28 (
 cl2 C 188 impl_Collect.sg [] [(nxc k22 0), (nxc k22 1), (nxc k22 2), (nxc k22 3)] fun v29 d30 =>
 K [(.int .i64 0), (.int .i64 0)] [(nxc d30 4), (nxc d30 0), (nxc d30 1), (nxc d30 2), (nxc d30 3)]) (
 cl2 C 143 impl_refused.sg [(.int .i64 2)] [] fun v31 d32 =>
 K [(nx v31 0), (nx v31 1)] [(nxc d32 0), (nxc k22 0), (nxc k22 1), (nxc k22 2), (nxc k22 3)]))) fun j23 =>
 prP (bnI .eql (nx x5 0) (.int .i64 8)) fun t38_24 =>
 cndP t38_24 (
 j23 [(nx x5 0), t38_24, (nx x5 2), (nx x5 3), (nx x5 4), (nx x5 5), (nx x5 6), (nx x5 7), (nx x5 8)] [(nxc k6 0), (nxc k6 1), (nxc k6 2), (nxc k6 3)]) (
 prP (bnI .eql (nx x5 0) (.int .i64 9)) fun t39_25 =>
 j23 [(nx x5 0), t39_25, (nx x5 2), (nx x5 3), (nx x5 4), (nx x5 5), (nx x5 6), (nx x5 7), (nx x5 8)] [(nxc k6 0), (nxc k6 1), (nxc k6 2), (nxc k6 3)]))))) fun j7 =>
 prP (bnI .eql a0 (.int .i64 2)) fun t16_8 =>
 cndP t16_8 (
 j7 [a0, t16_8, a0, a1, a2, a3, a4, (.int .i64 0), (.int .i64 0)] [c0, c1, c2, c3]) (
 prP (bnI .eql a0 (.int .i64 3)) fun t17_9 =>
 cndP t17_9 (
 j7 [a0, t17_9, a0, a1, a2, a3, a4, (.int .i64 0), (.int .i64 0)] [c0, c1, c2, c3]) (
 prP (bnI .eql a0 (.int .i64 5)) fun t18_10 =>
 cndP t18_10 (
 j7 [a0, t18_10, a0, a1, a2, a3, a4, (.int .i64 0), (.int .i64 0)] [c0, c1, c2, c3]) (
 prP (bnI .eql a0 (.int .i64 6)) fun t19_11 =>
 j7 [a0, t19_11, a0, a1, a2, a3, a4, (.int .i64 0), (.int .i64 0)] [c0, c1, c2, c3]))))
theorem impl_Heap_apply.cl2 {w0 : World} {a0 a1 a2 a3 a4 : Value} {c0 c1 c2 c3 : List T} {K : J2} (h : impl_Heap_apply.txt ⟨Try.prog, w0⟩ a0 a1 a2 a3 a4 c0 c1 c2 c3 K) : Eng.cl2 ⟨Try.prog, w0⟩ 131 impl_Heap_apply.sg [a0, a1, a2, a3, a4] [c0, c1, c2, c3] K :=
  cl2_of_run (C := ⟨Try.prog, w0⟩) (f := 131) (fn := Try.f131) [(183, impl_Heap_alloc.sg), (184, impl_Heap_counted.sg), (185, impl_Heap_store.sg), (186, impl_Heap_weak.sg), (187, impl_Heap_handle.sg), (188, impl_Collect.sg), (143, impl_refused.sg)] [] [(107, ⟨[.p (.j 0) 0, .p (.j 1) 0, .p (.j 2) 0, .v, .v], [.p (.j 0) 0], [.bx [.t (.j 3) 8, .t (.j 4) 2, .t (.j 5) 1, .t (.j 6) 1], .bx [.v, .v, .v, .v, .v], .bx [.v, .v, .z], .ls, .ls, .ls, .ls]⟩), (6911, ⟨[.p (.j 0) 0, .p (.j 1) 0, .p (.j 2) 0, .v, .v], [.p (.j 0) 0], [.bx [.t (.j 3) 8, .t (.j 4) 2, .t (.j 5) 1, .t (.j 6) 1], .bx [.v, .v, .v, .v, .v], .bx [.v, .v, .z], .ls, .ls, .ls, .ls]⟩)] Try.func131 (by kernel_rfl) (by kernel_rfl) (by kernel_rfl) h
/-- impl.Apply -/
def impl_Apply.sg : Sg := ⟨[(1, [.t 8 0, .t 2 0, .t 1 0, .t 1 0]), (1, [.v, .v, .v, .v, .v])], [(1, [.t 8, .t 2, .t 1, .t 1]), (1, [.v, .v, .t 1])], []⟩
def impl_Apply.txt (C : Ctx) (a0 a1 a2 a3 a4 : Value) (c0 c1 c2 c3 : List T) (K : J2) : Prop :=
 cl2 C 141 impl_copyHeap.sg [] [c0, c1, c2, c3] fun v1 d2 =>
 cl2 C 142 impl_HeapOk.sg [] [c0, c1, c2, c3] fun v3 d4 =>
 prP (un .not (nx v3 0)) fun t12_6 =>
 cndP t12_6 (
 cl2 C 143 impl_refused.sg [(.int .i64 2)] [] fun v7 d8 =>
 K [(nx v7 0), (nx v7 1)] [(nxc d2 0), (nxc d2 1), (nxc d2 2), (nxc d2 3), (nxc d8 0)]) (
 cl2 C 131 impl_Heap_apply.sg [a0, a1, a2, a3, a4] [(nxc d2 0), (nxc d2 1), (nxc d2 2), (nxc d2 3)] fun v9 d10 =>
 K [(nx v9 0), (nx v9 1)] [(nxc d10 1), (nxc d10 2), (nxc d10 3), (nxc d10 4), (nxc d10 0)])
theorem impl_Apply.cl2 {w0 : World} {a0 a1 a2 a3 a4 : Value} {c0 c1 c2 c3 : List T} {K : J2} (h : impl_Apply.txt ⟨Try.prog, w0⟩ a0 a1 a2 a3 a4 c0 c1 c2 c3 K) : Eng.cl2 ⟨Try.prog, w0⟩ 64 impl_Apply.sg [a0, a1, a2, a3, a4] [c0, c1, c2, c3] K :=
  cl2_of_run (C := ⟨Try.prog, w0⟩) (f := 64) (fn := Try.f64) [(141, impl_copyHeap.sg), (142, impl_HeapOk.sg), (143, impl_refused.sg), (131, impl_Heap_apply.sg)] [(3, [0, 0, 3, 7]), (5, [0, 0, 1, 7])] [] Try.func64 (by kernel_rfl) (by kernel_rfl) (by kernel_rfl) h
/-- laws.heldObjS -/
def laws_heldObjS.sg : Sg := ⟨[(0, [.t 8 0]), (0, [.v])], [(0, [.v])], []⟩
def laws_heldObjS.txt (C : Ctx) (a0 : Value) (c0 : List T) (K : J2) : Prop :=
 loopP (fun r3 x1 k2 =>
 prP (bnI .lss (nx x1 1) (iv (cnt 8 c0))) fun t9_5 =>
 cndP t9_5 (
 ixW (cnt 8 c0) (nx x1 1) fun t14_6 =>
 ldc c0 [] ((natOf t14_6) * 8) fun t16_7 =>
 prP (bnI .rem (nx x1 0) (.int .i64 3)) fun t18_8 =>
 prP (bnI .eql t18_8 (.int .i64 0)) fun t19_9 =>
 prP (bnB .neq t16_7 t19_9) fun t20_10 =>
 cndP t20_10 (
 K [(.int .i64 (-1))] []) (
 prP (bnI .add (nx x1 0) (.int .i64 1)) fun t22_11 =>
 ixW (cnt 8 c0) (nx x1 1) fun t25_12 =>
 ldc c0 [] (((natOf t25_12) * 8) + 1) fun t27_13 =>
 prP (bnI .neq t27_13 t22_11) fun t29_14 =>
 cndP t29_14 (
 K [(.int .i64 (-1))] []) (
 prP (bnI .add t22_11 (.int .i64 1)) fun t31_15 =>
 ixW (cnt 8 c0) (nx x1 1) fun t34_16 =>
 ldc c0 [] (((natOf t34_16) * 8) + 2) fun t36_17 =>
 prP (bnI .neq t36_17 t31_15) fun t38_18 =>
 cndP t38_18 (
 K [(.int .i64 (-1))] []) (
 prP (bnI .add t31_15 (.int .i64 1)) fun t40_19 =>
 ixW (cnt 8 c0) (nx x1 1) fun t43_20 =>
 ldc c0 [] (((natOf t43_20) * 8) + 3) fun t45_21 =>
 prP (bnI .neq t45_21 t40_19) fun t47_22 =>
 cndP t47_22 (
 K [(.int .i64 (-1))] []) (
 prP (bnI .add t40_19 (.int .i64 1)) fun t49_23 =>
 ixW (cnt 8 c0) (nx x1 1) fun t52_24 =>
 ldc c0 [] (((natOf t52_24) * 8) + 4) fun t54_25 =>
 prP (bnI .neq t54_25 t49_23) fun t56_26 =>
 cndP t56_26 (
 K [(.int .i64 (-1))] []) (
 prP (bnI .add t49_23 (.int .i64 1)) fun t58_27 =>
 ixW (cnt 8 c0) (nx x1 1) fun t61_28 =>
 ldc c0 [] (((natOf t61_28) * 8) + 5) fun t63_29 =>
 prP (bnI .neq t63_29 t58_27) fun t65_30 =>
 cndP t65_30 (
 K [(.int .i64 (-1))] []) (
 prP (bnI .add t58_27 (.int .i64 1)) fun t67_31 =>
 ixW (cnt 8 c0) (nx x1 1) fun t70_32 =>
 ldl c0 [] (((natOf t70_32) * 8) + 6) 1 fun t72_33 =>
 cl2 C 21 laws_heldIntS.sg [t67_31] [(subN c0 [(((natOf t70_32) * 8) + 6)])] fun v34 d35 =>
 prP (bnI .lss (nx v34 0) (.int .i64 0)) fun t76_37 =>
 cndP t76_37 (
 K [(.int .i64 (-1))] []) (
 ixW (cnt 8 c0) (nx x1 1) fun t79_38 =>
 ldc c0 [] (((natOf t79_38) * 8) + 7) fun t81_39 =>
 prP (bnI .rem (nx v34 0) (.int .i64 3)) fun t83_40 =>
 prP (bnI .eql t83_40 (.int .i64 0)) fun t84_41 =>
 prP (bnB .neq t81_39 t84_41) fun t85_42 =>
 cndP t85_42 (
 K [(.int .i64 (-1))] []) (
 prP (bnI .add (nx v34 0) (.int .i64 1)) fun t87_43 =>
 prP (bnI .add (nx x1 1) (.int .i64 1)) fun t11_44 =>
 r3 [t87_43, t11_44] []))))))))) (
 K [(nx x1 0)] [])) [a0, (.int .i64 0)] []
theorem laws_heldObjS.cl2 {w0 : World} {a0 : Value} {c0 : List T} {K : J2} (h : laws_heldObjS.txt ⟨Try.prog, w0⟩ a0 c0 K) : Eng.cl2 ⟨Try.prog, w0⟩ 132 laws_heldObjS.sg [a0] [c0] K :=
  cl2_of_run (C := ⟨Try.prog, w0⟩) (f := 132) (fn := Try.f132) [(21, laws_heldIntS.sg)] [] [(26, ⟨[.t (.f 0) 8, .v, .v], [], []⟩)] Try.func132 (by kernel_rfl) (by kernel_rfl) (by kernel_rfl) h
/-- laws.heldWeakS -/
def laws_heldWeakS.sg : Sg := ⟨[(0, [.t 2 0]), (0, [.v])], [(0, [.v])], []⟩
def laws_heldWeakS.txt (C : Ctx) (a0 : Value) (c0 : List T) (K : J2) : Prop :=
 loopP (fun r3 x1 k2 =>
 prP (bnI .lss (nx x1 1) (iv (cnt 2 c0))) fun t9_5 =>
 cndP t9_5 (
 ixW (cnt 2 c0) (nx x1 1) fun t14_6 =>
 ldc c0 [] ((natOf t14_6) * 2) fun t16_7 =>
 prP (bnI .rem (nx x1 0) (.int .i64 3)) fun t18_8 =>
 prP (bnI .eql t18_8 (.int .i64 0)) fun t19_9 =>
 prP (bnB .neq t16_7 t19_9) fun t20_10 =>
 cndP t20_10 (
 K [(.int .i64 (-1))] []) (
 prP (bnI .add (nx x1 0) (.int .i64 1)) fun t22_11 =>
 ixW (cnt 2 c0) (nx x1 1) fun t25_12 =>
 ldc c0 [] (((natOf t25_12) * 2) + 1) fun t27_13 =>
 prP (bnI .neq t27_13 t22_11) fun t29_14 =>
 cndP t29_14 (
 K [(.int .i64 (-1))] []) (
 prP (bnI .add t22_11 (.int .i64 1)) fun t31_15 =>
 prP (bnI .add (nx x1 1) (.int .i64 1)) fun t11_16 =>
 r3 [t31_15, t11_16] []))) (
 K [(nx x1 0)] [])) [a0, (.int .i64 0)] []
theorem laws_heldWeakS.cl2 {w0 : World} {a0 : Value} {c0 : List T} {K : J2} (h : laws_heldWeakS.txt ⟨Try.prog, w0⟩ a0 c0 K) : Eng.cl2 ⟨Try.prog, w0⟩ 133 laws_heldWeakS.sg [a0] [c0] K :=
  cl2_of_run (C := ⟨Try.prog, w0⟩) (f := 133) (fn := Try.f133) [] [] [(26, ⟨[.t (.f 0) 2, .v, .v], [], []⟩)] Try.func133 (by kernel_rfl) (by kernel_rfl) (by kernel_rfl) h
/-- laws.heldHeap -/
def laws_heldHeap.sg : Sg := ⟨[(1, [.t 8 0, .t 2 0, .t 1 0, .t 1 0]), (0, [.v])], [(0, [.v])], []⟩
def laws_heldHeap.txt (C : Ctx) (a0 : Value) (c0 c1 c2 c3 : List T) (K : J2) : Prop :=
 cl2 C 132 laws_heldObjS.sg [a0] [c0] fun v1 d2 =>
 prP (bnI .lss (nx v1 0) (.int .i64 0)) fun t10_4 =>
 cndP t10_4 (
 K [(.int .i64 (-1))] []) (
 cl2 C 133 laws_heldWeakS.sg [(nx v1 0)] [c1] fun v5 d6 =>
 prP (bnI .lss (nx v5 0) (.int .i64 0)) fun t16_8 =>
 cndP t16_8 (
 K [(.int .i64 (-1))] []) (
 cl2 C 21 laws_heldIntS.sg [(nx v5 0)] [c2] fun v9 d10 =>
 prP (bnI .lss (nx v9 0) (.int .i64 0)) fun t22_12 =>
 cndP t22_12 (
 K [(.int .i64 (-1))] []) (
 cl2 C 104 laws_heldStringS.sg [(nx v9 0)] [c3] fun v13 d14 =>
 prP (bnI .lss (nx v13 0) (.int .i64 0)) fun t28_16 =>
 cndP t28_16 (
 K [(.int .i64 (-1))] []) (
 K [(nx v13 0)] []))))
theorem laws_heldHeap.cl2 {w0 : World} {a0 : Value} {c0 c1 c2 c3 : List T} {K : J2} (h : laws_heldHeap.txt ⟨Try.prog, w0⟩ a0 c0 c1 c2 c3 K) : Eng.cl2 ⟨Try.prog, w0⟩ 60 laws_heldHeap.sg [a0] [c0, c1, c2, c3] K :=
  cl2_of_run (C := ⟨Try.prog, w0⟩) (f := 60) (fn := Try.f60) [(132, laws_heldObjS.sg), (133, laws_heldWeakS.sg), (21, laws_heldIntS.sg), (104, laws_heldStringS.sg)] [] [] Try.func60 (by kernel_rfl) (by kernel_rfl) (by kernel_rfl) h
/-- laws.FnExactApply -/
def laws_FnExactApply.sg : Sg := ⟨[(1, [.t 8 0, .t 2 0, .t 1 0, .t 1 0]), (1, [.v, .v, .v, .v, .v])], [(0, [.v])], []⟩
def laws_FnExactApply.txt (C : Ctx) (a0 a1 a2 a3 a4 : Value) (c0 c1 c2 c3 : List T) (K : J2) : Prop :=
 cl2 C 13 laws_szHeap.sg [(.int .i64 1048576)] [c0, c1, c2, c3] fun v1 d2 =>
 prP (bnI .lss (nx v1 0) (.int .i64 0)) fun t20_4 =>
 cndP t20_4 (
 K [(.bool true)] []) (
 cl2 C 61 laws_szOp.sg [a0, a1, a2, a3, a4, (nx v1 0)] [] fun v5 d6 =>
 prP (bnI .lss (nx v5 0) (.int .i64 0)) fun t25_8 =>
 cndP t25_8 (
 K [(.bool true)] []) (
 cl2 C 15 laws_toHeap.sg [] [c0, c1, c2, c3] fun v9 d10 =>
 cl2 C 63 laws_toOp.sg [a0, a1, a2, a3, a4] [] fun v11 d12 =>
 cl2 C 62 spec_Apply.sg [(nx v11 0), (nx v11 1), (nx v11 2), (nx v11 3), (nx v11 4)] [(nxc d10 0), (nxc d10 1), (nxc d10 2), (nxc d10 3)] fun v13 d14 =>
 cl2 C 15 laws_toHeap.sg [] [c0, c1, c2, c3] fun v15 d16 =>
 cl2 C 63 laws_toOp.sg [a0, a1, a2, a3, a4] [] fun v17 d18 =>
 cl2 C 64 impl_Apply.sg [(nx v17 0), (nx v17 1), (nx v17 2), (nx v17 3), (nx v17 4)] [(nxc d16 0), (nxc d16 1), (nxc d16 2), (nxc d16 3)] fun v19 d20 =>
 cl2 C 18 laws_eqHeap.sg [] [(nxc d20 0), (nxc d20 1), (nxc d20 2), (nxc d20 3), (nxc d14 0), (nxc d14 1), (nxc d14 2), (nxc d14 3)] fun v21 d22 =>
 prP (un .not (nx v21 0)) fun t46_24 =>
 gE t46_24 (
 gE t46_24 (
 gP t46_24 false ((fun K => cl2 C 37 laws_eqAnswer.sg [(nx v19 0), (nx v19 1), (nx v13 0), (nx v13 1)] [(nxc d20 4), (nxc d14 4)] fun v25 d26 => K (nx v25 0))) fun t50_27 =>
 gP t46_24 false (prP (un .not t50_27)) fun t51_28 =>
 prP (pk t46_24 (.bool true) t51_28) fun t52_29 =>
 cndP t52_29 (
 K [(.bool false)] []) (
 cl2 C 15 laws_toHeap.sg [] [c0, c1, c2, c3] fun v30 d31 =>
 cl2 C 18 laws_eqHeap.sg [] [(nxc d16 0), (nxc d16 1), (nxc d16 2), (nxc d16 3), (nxc d31 0), (nxc d31 1), (nxc d31 2), (nxc d31 3)] fun v32 d33 =>
 prP (un .not (nx v32 0)) fun t57_35 =>
 cndP t57_35 (
 K [(.bool false)] []) (
 cl2 C 19 laws_markHeap.sg [(.int .i64 1)] [(nxc d16 0), (nxc d16 1), (nxc d16 2), (nxc d16 3)] fun v36 d37 =>
 prP (bnI .lss (nx v36 0) (.int .i64 0)) fun t62_38 =>
 gE t62_38 (
 gE t62_38 (
 gP t62_38 false ((fun K => cl2 C 18 laws_eqHeap.sg [] [(nxc d20 0), (nxc d20 1), (nxc d20 2), (nxc d20 3), (nxc d14 0), (nxc d14 1), (nxc d14 2), (nxc d14 3)] fun v39 d40 => K (nx v39 0))) fun t66_41 =>
 gP t62_38 false (prP (un .not t66_41)) fun t67_42 =>
 prP (pk t62_38 (.bool true) t67_42) fun t68_43 =>
 gE t68_43 (
 gE t68_43 (
 gP t68_43 false ((fun K => cl2 C 37 laws_eqAnswer.sg [(nx v19 0), (nx v19 1), (nx v13 0), (nx v13 1)] [(nxc d20 4), (nxc d14 4)] fun v44 d45 => K (nx v44 0))) fun t72_46 =>
 gP t68_43 false (prP (un .not t72_46)) fun t73_47 =>
 prP (pk t68_43 (.bool true) t73_47) fun t74_48 =>
 cndP t74_48 (
 K [(.bool false)] []) (
 cl2 C 19 laws_markHeap.sg [(.int .i64 1)] [(nxc d20 0), (nxc d20 1), (nxc d20 2), (nxc d20 3)] fun v49 d50 =>
 cl2 C 40 laws_markAnswer.sg [(nx v19 0), (nx v19 1), (nx v49 0)] [(nxc d20 4)] fun v51 d52 =>
 cl2 C 60 laws_heldHeap.sg [(.int .i64 1)] [(nxc d50 0), (nxc d50 1), (nxc d50 2), (nxc d50 3)] fun v53 d54 =>
 prP (bnI .lss (nx v53 0) (.int .i64 0)) fun t85_56 =>
 cndP t85_56 (
 K [(.bool false)] []) (
 cl2 C 41 laws_heldAnswer.sg [(nx v19 0), (nx v19 1), (nx v53 0)] [(nxc d52 0)] fun v57 d58 =>
 prP (bnI .lss (nx v57 0) (.int .i64 0)) fun t90_60 =>
 cndP t90_60 (
 K [(.bool false)] []) (
 prP (bnI .neq (nx v57 0) (nx v51 0)) fun t93_61 =>
 cndP t93_61 (
 K [(.bool false)] []) (
 cl2 C 15 laws_toHeap.sg [] [c0, c1, c2, c3] fun v62 d63 =>
 cl2 C 63 laws_toOp.sg [a0, a1, a2, a3, a4] [] fun v64 d65 =>
 cl2 C 64 impl_Apply.sg [(nx v64 0), (nx v64 1), (nx v64 2), (nx v64 3), (nx v64 4)] [(nxc d63 0), (nxc d63 1), (nxc d63 2), (nxc d63 3)] fun v66 d67 =>
 cl2 C 18 laws_eqHeap.sg [] [(nxc d67 0), (nxc d67 1), (nxc d67 2), (nxc d67 3), (nxc d14 0), (nxc d14 1), (nxc d14 2), (nxc d14 3)] fun v68 d69 =>
 prP (un .not (nx v68 0)) fun t105_71 =>
 gE t105_71 (
 gE t105_71 (
 gP t105_71 false ((fun K => cl2 C 37 laws_eqAnswer.sg [(nx v66 0), (nx v66 1), (nx v13 0), (nx v13 1)] [(nxc d67 4), (nxc d14 4)] fun v72 d73 => K (nx v72 0))) fun t109_74 =>
 gP t105_71 false (prP (un .not t109_74)) fun t110_75 =>
 prP (pk t105_71 (.bool true) t110_75) fun t111_76 =>
 cndP t111_76 (
 K [(.bool false)] []) (
 cl2 C 60 laws_heldHeap.sg [(.int .i64 1)] [(nxc d50 0), (nxc d50 1), (nxc d50 2), (nxc d50 3)] fun v77 d78 =>
 prP (bnI .lss (nx v77 0) (.int .i64 0)) fun t116_80 =>
 cndP t116_80 (
 K [(.bool false)] []) (
 cl2 C 41 laws_heldAnswer.sg [(nx v19 0), (nx v19 1), (nx v77 0)] [(nxc d52 0)] fun v81 d82 =>
 prP (bnI .lss (nx v81 0) (.int .i64 0)) fun t121_84 =>
 cndP t121_84 (
 K [(.bool false)] []) (
 prP (bnI .neq (nx v81 0) (nx v51 0)) fun t124_85 =>
 cndP t124_85 (
 K [(.bool false)] []) (
 K [(.bool true)] []))))))))))))))))))))
theorem laws_FnExactApply.cl2 {w0 : World} {a0 a1 a2 a3 a4 : Value} {c0 c1 c2 c3 : List T} {K : J2} (h : laws_FnExactApply.txt ⟨Try.prog, w0⟩ a0 a1 a2 a3 a4 c0 c1 c2 c3 K) : Eng.cl2 ⟨Try.prog, w0⟩ 10 laws_FnExactApply.sg [a0, a1, a2, a3, a4] [c0, c1, c2, c3] K :=
  cl2_of_run (C := ⟨Try.prog, w0⟩) (f := 10) (fn := Try.f10) [(13, laws_szHeap.sg), (61, laws_szOp.sg), (15, laws_toHeap.sg), (63, laws_toOp.sg), (62, spec_Apply.sg), (64, impl_Apply.sg), (18, laws_eqHeap.sg), (37, laws_eqAnswer.sg), (19, laws_markHeap.sg), (40, laws_markAnswer.sg), (60, laws_heldHeap.sg), (41, laws_heldAnswer.sg)] [(8, [0, 1, 0, 7, 15, 31, 63, 63, 0, 0, 895, 2047]), (10, [0, 0, 2, 7, 15, 31, 31, 0, 0, 447, 1023]), (13, [0, 0, 2, 7, 15]), (31, [0, 1, 0, 7, 15, 31, 63, 63, 0, 0, 895, 2047])] [] Try.func10 (by kernel_rfl) (by kernel_rfl) (by kernel_rfl) h
end Go.Proofs.Ytnhicpkhkaihoaa.P
