/- Logs, as they are read. -/
import Derived.Test.YtnhicpkhkaihoaaCeWireE
namespace Go.Proofs.Ytnhicpkhkaihoaa.P
open Go Go.Proofs.Ytnhicpkhkaihoaa Go.Proofs.Ytnhicpkhkaihoaa.Eng
set_option maxHeartbeats 4000000
set_option linter.unusedVariables false
set_option linter.unusedSimpArgs false
attribute [local irreducible] prP gP gE gF cndP ixW ldc ldg ldl stc stg scW mkW apW loopP cl2 joinP pre2
variable {w0 : World}
/-- Frames, one behind the other: what they bear, and how it ends. -/
def rlF : Nat → ByteArray → List ByteArray → List ByteArray × Int
  | 0, _, _ => ([], 4)
  | f + 1, s, out => if s.size = 0 then ([], 4) else if (rf s).n = 0 then ([], 2) else if (rf s).seq ≠ out.length then ([], 3) else
      if (rf s).pay = ⟨#[]⟩ then (if (rf s).n < s.size then ([], 5) else (out, 0)) else rlF f (dr s (rf s).n.toNat) (out ++ [(rf s).pay])
def rl (s : ByteArray) : List ByteArray × Int := if s.size < 5 ∨ s.extract 0 5 ≠ magic then ([], 1) else rlF (s.size + 1) (dr s 5) []
/-- At the head of the loop. -/
structure RlI (s0 s : ByteArray) (out : List ByteArray) : Prop where
  sz : s.size + out.length ≤ s0.size
  go : ∃ f, s.size < f ∧ rlF f s out = rl s0
theorem RlI.next {s0 s : ByteArray} {out : List ByteArray} (h : RlI s0 s out) (h0 : s.size ≠ 0) (h1 : (rf s).n ≠ 0) (h2 : (rf s).seq = out.length) (h3 : (rf s).pay ≠ ⟨#[]⟩) : RlI s0 (dr s (rf s).n.toNat) (out ++ [(rf s).pay]) := by
  obtain ⟨g1, f, g2, g3⟩ := h
  have hb := rf_bd s
  have := hb.2.2.1 h1
  obtain ⟨f, rfl⟩ : ∃ f', f = f' + 1 := ⟨f - 1, by omega⟩
  rw [rlF, if_neg h0, if_neg h1, if_neg (by simpa using h2), if_neg h3] at g3
  exact ⟨by rw [dr_size, List.length_append, List.length_singleton]; omega, f, by rw [dr_size]; omega, g3⟩
theorem RlI.at_ {s0 s : ByteArray} {out : List ByteArray} (h : RlI s0 s out) : ∃ f, rlF (f + 1) s out = rl s0 := by
  obtain ⟨_, f, g2, g3⟩ := h
  obtain ⟨f, rfl⟩ : ∃ f', f = f' + 1 := ⟨f - 1, by omega⟩
  exact ⟨f, g3⟩
attribute [irreducible] rl
end Go.Proofs.Ytnhicpkhkaihoaa.P
