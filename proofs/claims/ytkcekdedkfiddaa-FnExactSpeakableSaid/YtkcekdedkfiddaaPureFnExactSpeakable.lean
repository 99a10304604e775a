/- The pure statement of the law FnExactSpeakable: whatever the arguments are, it answers true. Nothing is asked of the arguments but that they are numbers, texts and rows as they can be read. -/
import Derived.Test.YtkcekdedkfiddaaPFnExactSpeakablex1
import Derived.Test.YtkcekdedkfiddaaKit
namespace Go.Proofs.Ytkcekdedkfiddaa.Pure
open Go.RowKit Go.Proofs.Ytkcekdedkfiddaa.PFnExactSpeakable Go.Proofs.YtkcekdedkfiddaaW.PrintWords Go.Proofs.YtkcekdedkfiddaaW.PrintLast Go.Proofs.Ytkcekdedkfiddaa.Kit

theorem in_eq (x : Int) : impl_isArg.f x = some (decide (x ≥ -1000000000) && decide (x ≤ 1000000000)) := by
  unfold impl_isArg.f impl_in.f
  by_cases h : x ≥ -1000000000 <;> simp [h]
theorem in_eq2 (x : Int) : spec_l1In.f x (-1000000000) 1000000000 = some (decide (x ≥ -1000000000) && decide (x ≤ 1000000000)) := by
  unfold spec_l1In.f
  by_cases h : x ≥ -1000000000 <;> simp [h]
theorem tot (a b c d : Int) (e : ByteArray) : ∃ r, spec_Speakable.f a b c d e = some r ∧ impl_Speakable.f a b c d e = some r := by
  unfold spec_Speakable.f impl_Speakable.f
  simp only [in_eq, in_eq2, Option.bind_some]
  generalize (decide (a ≥ -1000000000) && decide (a ≤ 1000000000)) = p
  generalize (decide (b ≥ -1000000000) && decide (b ≤ 1000000000)) = q
  generalize (decide (c ≥ -1000000000) && decide (c ≤ 1000000000)) = r
  generalize (decide (d ≥ -1000000000) && decide (d ≤ 1000000000)) = s
  cases p <;> cases q <;> cases r <;> cases s <;> simp
theorem FnExactSpeakable : ∀ (a0_0 : Int) (a0_1 : Int) (a0_2 : Int) (a0_3 : Int) (a0_4 : ByteArray), (Lit.int .i64 a0_0).wf = true → (Lit.int .i64 a0_1).wf = true → (Lit.int .i64 a0_2).wf = true → (Lit.int .i64 a0_3).wf = true → a0_4.size ≤ maxLen → laws_FnExactSpeakable.f a0_0 a0_1 a0_2 a0_3 a0_4 = some true := by
  intro a b c d e _ _ _ _ _
  obtain ⟨r, h1, h2⟩ := tot a b c d e
  unfold laws_FnExactSpeakable.f laws_szOp.f
  split
  · simp
  · rename_i hh
    simp only [Option.bind_some, laws_toOp.f, if_neg hh, h1, h2, bne_self_eq_false, Bool.false_eq_true, if_false]

end Go.Proofs.Ytkcekdedkfiddaa.Pure
