/- A part of the proof. -/
import Derived.Test.YtnhicpkhkaihoaaGreatRcEngZ
import Derived.Test.YtnhicpkhkaihoaaGreatRcHpX
namespace Go.Proofs.YtnhicpkhkaihoaaGreat.P
open Go Go.Proofs.YtnhicpkhkaihoaaGreat Go.Proofs.YtnhicpkhkaihoaaGreat.Eng
set_option linter.unusedVariables false
instance Bc:DecidableEq Op5:=fun x y=>decidable_of_iff (x.kind=y.kind∧x.a=y.a∧x.b=y.b∧x.c=y.c∧x.site=y.site) (by cases x;cases y;simp)
instance Bb:DecidableEq Wk:=fun x y=>decidable_of_iff (x.used=y.used∧x.target=y.target) (by cases x;cases y;simp)
instance Ba:DecidableEq An:=fun x y=>decidable_of_iff (x.code=y.code∧x.val=y.val∧x.freed=y.freed) (by cases x;cases y;simp)
end Go.Proofs.YtnhicpkhkaihoaaGreat.P
