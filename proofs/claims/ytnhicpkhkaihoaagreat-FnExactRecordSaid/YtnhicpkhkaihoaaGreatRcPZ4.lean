/- A part of the proof. -/
import Derived.Test.YtnhicpkhkaihoaaGreatChecked
import Derived.Test.YtnhicpkhkaihoaaGreatRcPZ3
import Derived.KernelRfl
namespace Go.Proofs.YtnhicpkhkaihoaaGreat.P
open Go Go.Proofs.YtnhicpkhkaihoaaGreat Go.Proofs.YtnhicpkhkaihoaaGreat.Eng
set_option linter.unusedVariables false
set_option maxRecDepth 100000
def DU.sg:Sg:=⟨[(0,[.v]),(0,[.v])],[(0,[.v])],[]⟩
def DU.txt (C:Ctx) (a0 a1:Value) (K:J2):Prop:=
 prP (lnS a0) fun t6_1=>
 prP (lnS a1) fun t8_2=>
 prP (bnI .geq t6_1 t8_2) fun t9_3=>
 gE t9_3 (
 gE t9_3 (
 gP t9_3 true (prP (lnS a1)) fun t13_4=>
 gP t9_3 true (prP (scS a0 none (some t13_4))) fun t14_5=>
 gE t9_3 (
 gP t9_3 true (prP (bnS .eql t14_5 a1)) fun t16_6=>
 prP (pk t9_3 t16_6 (.bool false)) fun t17_7=>
 K [t17_7] [])))
theorem DU.cl2 {w0:World} {a0 a1:Value} {K:J2} (h:DU.txt ⟨Tryz.prog,w0⟩ a0 a1 K):Eng.cl2 ⟨Tryz.prog,w0⟩ 181 DU.sg [a0,a1] [] K:=
 AD (C:=⟨Tryz.prog,w0⟩) (f:=181) (fn:=Tryz.f181) [] [] [] Tryz.func181 (by kernel_rfl) (by kernel_rfl) (by kernel_rfl) h
def HF.sg:Sg:=⟨[(0,[.v]),(0,[.v])],[(0,[.v]),(0,[.v])],[]⟩
def HF.txt (C:Ctx) (a0 a1:Value) (K:J2):Prop:=
 cl2 C 181 DU.sg [a0,a1] [] fun v1 d2=>
 prP (un .not (nx v1 0)) fun t9_4=>
 AG t9_4 (
 K [a0,(.bool false)] []) (
 prP (lnS a1) fun t13_5=>
 prP (scS a0 (some t13_5) none) fun t14_6=>
 K [t14_6,(.bool true)] [])
theorem HF.cl2 {w0:World} {a0 a1:Value} {K:J2} (h:HF.txt ⟨Tryz.prog,w0⟩ a0 a1 K):Eng.cl2 ⟨Tryz.prog,w0⟩ 138 HF.sg [a0,a1] [] K:=
 AD (C:=⟨Tryz.prog,w0⟩) (f:=138) (fn:=Tryz.f138) [(181,DU.sg)] [] [] Tryz.func138 (by kernel_rfl) (by kernel_rfl) (by kernel_rfl) h
end Go.Proofs.YtnhicpkhkaihoaaGreat.P
