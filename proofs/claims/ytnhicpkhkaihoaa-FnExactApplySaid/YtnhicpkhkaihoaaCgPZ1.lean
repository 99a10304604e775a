/- A part of the proof. -/
import Derived.Test.YtnhicpkhkaihoaaChecked
import Derived.Test.YtnhicpkhkaihoaaCgPZ0
import Derived.KernelRfl
/- The functions of the code as the pure engine's texts, printed by my program gen2.py: each with its call. -/
namespace Go.Proofs.Ytnhicpkhkaihoaa.P
open Go Go.Proofs.Ytnhicpkhkaihoaa Go.Proofs.Ytnhicpkhkaihoaa.Eng
set_option linter.unusedVariables false
set_option maxRecDepth 100000
/-- impl.copyTexts -/
def impl_copyTexts.sg : Sg := ⟨[(0, [.t 1 0])], [(0, [.t 1])], []⟩
def impl_copyTexts.txt (C : Ctx) (c0 : List T) (K : J2) : Prop :=
 apW c0 true 0 (cnt 1 c0) 16 (
 K [] [([] ++ c0)])
theorem impl_copyTexts.cl2 {w0 : World} {c0 : List T} {K : J2} (h : impl_copyTexts.txt ⟨Try.prog, w0⟩ c0 K) : Eng.cl2 ⟨Try.prog, w0⟩ 144 impl_copyTexts.sg [] [c0] K :=
  cl2_of_run (C := ⟨Try.prog, w0⟩) (f := 144) (fn := Try.f144) [] [] [] Try.func144 (by kernel_rfl) (by kernel_rfl) (by kernel_rfl) h
/-- impl.textAt -/
def impl_textAt.sg : Sg := ⟨[(0, [.t 1 0]), (0, [.v])], [(0, [.v])], []⟩
def impl_textAt.txt (C : Ctx) (a0 : Value) (c0 : List T) (K : J2) : Prop :=
 loopP (fun r3 x1 k2 =>
 prP (bnI .lss (nx x1 2) (nx x1 1)) fun t10_5 =>
 cndP t10_5 (
 ixW (cnt 1 c0) (nx x1 2) fun t12_6 =>
 ldc c0 [] ((natOf t12_6) * 1) fun t13_7 =>
 prP (bnS .eql t13_7 (nx x1 0)) fun t16_8 =>
 cndP t16_8 (
 K [(nx x1 2)] []) (
 prP (bnI .add (nx x1 2) (.int .i64 1)) fun t18_9 =>
 r3 [(nx x1 0), (nx x1 1), t18_9] [])) (
 K [(.int .i64 (-1))] [])) [a0, (iv (cnt 1 c0)), (.int .i64 0)] []
theorem impl_textAt.cl2 {w0 : World} {a0 : Value} {c0 : List T} {K : J2} (h : impl_textAt.txt ⟨Try.prog, w0⟩ a0 c0 K) : Eng.cl2 ⟨Try.prog, w0⟩ 115 impl_textAt.sg [a0] [c0] K :=
  cl2_of_run (C := ⟨Try.prog, w0⟩) (f := 115) (fn := Try.f115) [] [] [(26, ⟨[.v, .t (.f 0) 1, .v, .v], [], []⟩)] Try.func115 (by kernel_rfl) (by kernel_rfl) (by kernel_rfl) h
/-- impl.hasText -/
def impl_hasText.sg : Sg := ⟨[(0, [.t 1 0]), (0, [.v])], [(0, [.v])], []⟩
def impl_hasText.txt (C : Ctx) (a0 : Value) (c0 : List T) (K : J2) : Prop :=
 cl2 C 115 impl_textAt.sg [a0] [c0] fun v1 d2 =>
 prP (bnI .geq (nx v1 0) (.int .i64 0)) fun t8_4 =>
 K [t8_4] []
theorem impl_hasText.cl2 {w0 : World} {a0 : Value} {c0 : List T} {K : J2} (h : impl_hasText.txt ⟨Try.prog, w0⟩ a0 c0 K) : Eng.cl2 ⟨Try.prog, w0⟩ 176 impl_hasText.sg [a0] [c0] K :=
  cl2_of_run (C := ⟨Try.prog, w0⟩) (f := 176) (fn := Try.f176) [(115, impl_textAt.sg)] [] [] Try.func176 (by kernel_rfl) (by kernel_rfl) (by kernel_rfl) h
/-- laws.eqAnswer -/
def laws_eqAnswer.sg : Sg := ⟨[(1, [.v, .v, .t 1 0]), (1, [.v, .v, .t 1 0])], [(0, [.v])], []⟩
def laws_eqAnswer.txt (C : Ctx) (a0 a1 a2 a3 : Value) (c0 c1 : List T) (K : J2) : Prop :=
 prP (bnI .neq a0 a2) fun t9_1 =>
 cndP t9_1 (
 K [(.bool false)] []) (
 prP (bnI .neq a1 a3) fun t14_2 =>
 cndP t14_2 (
 K [(.bool false)] []) (
 cl2 C 17 laws_eqIntS.sg [] [c0, c1] fun v3 d4 =>
 prP (un .not (nx v3 0)) fun t20_6 =>
 cndP t20_6 (
 K [(.bool false)] []) (
 K [(.bool true)] [])))
theorem laws_eqAnswer.cl2 {w0 : World} {a0 a1 a2 a3 : Value} {c0 c1 : List T} {K : J2} (h : laws_eqAnswer.txt ⟨Try.prog, w0⟩ a0 a1 a2 a3 c0 c1 K) : Eng.cl2 ⟨Try.prog, w0⟩ 37 laws_eqAnswer.sg [a0, a1, a2, a3] [c0, c1] K :=
  cl2_of_run (C := ⟨Try.prog, w0⟩) (f := 37) (fn := Try.f37) [(17, laws_eqIntS.sg)] [] [] Try.func37 (by kernel_rfl) (by kernel_rfl) (by kernel_rfl) h
end Go.Proofs.Ytnhicpkhkaihoaa.P
