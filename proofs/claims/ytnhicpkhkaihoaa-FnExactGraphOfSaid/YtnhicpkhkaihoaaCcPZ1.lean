/- The functions of the code as the pure engine's texts, printed by my program gen2.py: each with its call. -/
import Derived.Test.YtnhicpkhkaihoaaChecked
import Derived.Test.YtnhicpkhkaihoaaCcPZ0
import Derived.KernelRfl
namespace Go.Proofs.Ytnhicpkhkaihoaa.P
open Go Go.Proofs.Ytnhicpkhkaihoaa Go.Proofs.Ytnhicpkhkaihoaa.Eng
set_option linter.unusedVariables false
set_option maxRecDepth 100000
/-- impl.copyTexts -/
def impl_copyTexts.sg : Sg := ⟨[(0, [.t 1 0])], [(0, [.t 1])], []⟩
def impl_copyTexts.txt (C : Ctx) (c0 : List T) (K : J2) : Prop :=
 apW c0 true 0 (cnt 1 c0) 16 (
 K [] [([] ++ c0)])
theorem impl_copyTexts.cl2 {w0 : World} {c0 : List T} {K : J2} (h : impl_copyTexts.txt ⟨Try.prog, w0⟩ c0 K) : Eng.cl2 ⟨Try.prog, w0⟩ 144 impl_copyTexts.sg [] [c0] K :=
  cl2_of_run (C := ⟨Try.prog, w0⟩) (f := 144) (fn := Try.f144) [] [] [] Try.func144 (by kernel_rfl) (by kernel_rfl) (by kernel_rfl) h
end Go.Proofs.Ytnhicpkhkaihoaa.P
