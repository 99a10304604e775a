/- A part of the proof. -/
import Derived.Test.YtnhicpkhkaihoaaGreatRpHpX
namespace Go.Proofs.YtnhicpkhkaihoaaGreat.P
open Go Go.Proofs.YtnhicpkhkaihoaaGreat Go.Proofs.YtnhicpkhkaihoaaGreat.Eng
set_option linter.unusedVariables false
def tl:Int→List Int→ByteArray
 | _,[]=>⟨#[]⟩
 | b,x::xs=>SI (x-b)++tl x xs
theorem vU {n:Int} {l:List ByteArray} {s:ByteArray} (h:(CI n l s).ok=true):s≠⟨#[]⟩∧IB n l (CI n l s).o (CI n l s).a=(s,(CI n l s).last,(CI n l s).sites):=by
 unfold CI at h ⊢
 split at h
 ·cases h
 ·rename_i e he
  split at h
  ·rename_i hok
   simp only [if_pos hok]
   obtain ⟨h1,h2⟩:=hok
   refine ⟨by rw [←h2];exact h1, ?_⟩
   rw [←h2]
  ·cases h
end Go.Proofs.YtnhicpkhkaihoaaGreat.P
