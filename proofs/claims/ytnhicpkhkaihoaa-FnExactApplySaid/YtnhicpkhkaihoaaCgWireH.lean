/- A part of the proof. -/
import Derived.Test.YtnhicpkhkaihoaaCgWireG
/- Events, as the reference reads them. -/
namespace Go.Proofs.Ytnhicpkhkaihoaa.P
open Go Go.Proofs.Ytnhicpkhkaihoaa Go.Proofs.Ytnhicpkhkaihoaa.Eng
set_option maxHeartbeats 4000000
set_option linter.unusedVariables false
set_option linter.unusedSimpArgs false
attribute [local irreducible] prP gP gE gF cndP ixW ldc ldg ldl stc stg scW mkW apW loopP cl2 joinP pre2 selW
variable {w0 : World}
def rdIs : Nat → ByteArray → Option (List Int × ByteArray)
  | 0, r => some ([], r)
  | m + 1, r => (rdI r).bind fun p => (rdIs m p.2).bind fun q => some (p.1 :: q.1, q.2)
structure L10 (s : ByteArray) (a0 n : Nat) (q : Nat × List Int × Nat) : Prop where
  le : q.1 ≤ n
  len : q.2.1.length = q.1
  at_ : a0 ≤ q.2.2
  sz : q.2.2 ≤ s.size
  go : rdIs n (dr s a0) = (rdIs (n - q.1) (dr s q.2.2)).map fun p => (q.2.1 ++ p.1, p.2)
def rdName (l : List ByteArray) (r : ByteArray) : Option (ByteArray × ByteArray) := (rdN r).bind fun p => if p.1 = 0 then rdT p.2 else if p.1 ≤ l.length then some (gS l (p.1 - 1).toNat, p.2) else none
attribute [irreducible] rdIs rdName
end Go.Proofs.Ytnhicpkhkaihoaa.P
