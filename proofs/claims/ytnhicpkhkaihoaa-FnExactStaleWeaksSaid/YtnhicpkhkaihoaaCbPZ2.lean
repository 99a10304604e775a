/- The functions of the code as the pure engine's texts, printed by my program gen2.py: each with its call. -/
import Derived.Test.YtnhicpkhkaihoaaChecked
import Derived.Test.YtnhicpkhkaihoaaCbPZ1
import Derived.KernelRfl
namespace Go.Proofs.Ytnhicpkhkaihoaa.P
open Go Go.Proofs.Ytnhicpkhkaihoaa Go.Proofs.Ytnhicpkhkaihoaa.Eng
set_option linter.unusedVariables false
set_option maxRecDepth 100000
/-- stringslite.HasPrefix -/
def stringslite_HasPrefix.sg : Sg := ⟨[(0, [.v]), (0, [.v])], [(0, [.v])], []⟩
def stringslite_HasPrefix.txt (C : Ctx) (a0 a1 : Value) (K : J2) : Prop :=
 prP (lnS a0) fun t6_1 =>
 prP (lnS a1) fun t8_2 =>
 prP (bnI .geq t6_1 t8_2) fun t9_3 =>
 gE t9_3 (
 gE t9_3 (
 gP t9_3 true (prP (lnS a1)) fun t13_4 =>
 gP t9_3 true (prP (scS a0 none (some t13_4))) fun t14_5 =>
 gE t9_3 (
 gP t9_3 true (prP (bnS .eql t14_5 a1)) fun t16_6 =>
 prP (pk t9_3 t16_6 (.bool false)) fun t17_7 =>
 K [t17_7] [])))
theorem stringslite_HasPrefix.cl2 {w0 : World} {a0 a1 : Value} {K : J2} (h : stringslite_HasPrefix.txt ⟨Try.prog, w0⟩ a0 a1 K) : Eng.cl2 ⟨Try.prog, w0⟩ 230 stringslite_HasPrefix.sg [a0, a1] [] K :=
  cl2_of_run (C := ⟨Try.prog, w0⟩) (f := 230) (fn := Try.f230) [] [] [] Try.func230 (by kernel_rfl) (by kernel_rfl) (by kernel_rfl) h
/-- stringslite.CutPrefix -/
def stringslite_CutPrefix.sg : Sg := ⟨[(0, [.v]), (0, [.v])], [(0, [.v]), (0, [.v])], []⟩
def stringslite_CutPrefix.txt (C : Ctx) (a0 a1 : Value) (K : J2) : Prop :=
 cl2 C 230 stringslite_HasPrefix.sg [a0, a1] [] fun v1 d2 =>
 prP (un .not (nx v1 0)) fun t9_4 =>
 cndP t9_4 (
 K [a0, (.bool false)] []) (
 prP (lnS a1) fun t13_5 =>
 prP (scS a0 (some t13_5) none) fun t14_6 =>
 K [t14_6, (.bool true)] [])
theorem stringslite_CutPrefix.cl2 {w0 : World} {a0 a1 : Value} {K : J2} (h : stringslite_CutPrefix.txt ⟨Try.prog, w0⟩ a0 a1 K) : Eng.cl2 ⟨Try.prog, w0⟩ 210 stringslite_CutPrefix.sg [a0, a1] [] K :=
  cl2_of_run (C := ⟨Try.prog, w0⟩) (f := 210) (fn := Try.f210) [(230, stringslite_HasPrefix.sg)] [] [] Try.func210 (by kernel_rfl) (by kernel_rfl) (by kernel_rfl) h
end Go.Proofs.Ytnhicpkhkaihoaa.P
