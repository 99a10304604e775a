/- The pure statement of the law FnExactLeakWord: whatever the arguments are, it answers true. Nothing is asked of the arguments but that they are numbers, texts and rows as they can be read. -/
import Derived.Test.YtkcekdedkfiddaaPFnExactLeakWordx1
import Derived.Test.YtkcekdedkfiddaaKit
namespace Go.Proofs.Ytkcekdedkfiddaa.Pure
open Go.RowKit Go.Proofs.Ytkcekdedkfiddaa.PFnExactLeakWord Go.Proofs.YtkcekdedkfiddaaW.PrintWords Go.Proofs.YtkcekdedkfiddaaW.PrintLast Go.Proofs.Ytkcekdedkfiddaa.Kit

theorem FnExactLeakWord : laws_FnExactLeakWord.Pure := by
  intro a0 h
  have hb := bounds_i64 h
  unfold laws_FnExactLeakWord.f spec_LeakWord.f impl_LeakWord.f spec_l1In.f
  by_cases h1 : a0 = 1
  · subst h1; simp [wrap64, rdOf]
  by_cases h2 : a0 = 2
  · subst h2; simp [wrap64, rdOf]
  have : ¬ (a0 ≥ 1 ∧ a0 ≤ 2) := by omega
  by_cases h3 : a0 ≥ 1
  · have h4 : ¬ a0 ≤ 2 := by omega
    simp [h1, h2, h3, h4]
  · simp [h1, h2, h3]

end Go.Proofs.Ytkcekdedkfiddaa.Pure
