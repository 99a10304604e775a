/- The pure statement of the law FnExactRootedBy: whatever the arguments are, it answers true. Nothing is asked of the arguments but that they are numbers, texts and rows as they can be read. -/
import Derived.Test.YtkcekdedkfiddaaPFnExactRootedByx1
import Derived.Test.YtkcekdedkfiddaaKit
namespace Go.Proofs.Ytkcekdedkfiddaa.Pure
open Go.RowKit Go.Proofs.Ytkcekdedkfiddaa.PFnExactRootedBy Go.Proofs.YtkcekdedkfiddaaW.PrintWords Go.Proofs.YtkcekdedkfiddaaW.PrintLast Go.Proofs.Ytkcekdedkfiddaa.Kit

theorem FnExactRootedBy : ∀ (a0_0 : ByteArray) (a0_1 : Int) (a0_2 : Int) (a0_3 : Int) (a0_4 : Int) (a0_5 : Int) (a0_6 : Int), a0_0.size ≤ maxLen → (Lit.int .i64 a0_1).wf = true → (Lit.int .i64 a0_2).wf = true → (Lit.int .i64 a0_3).wf = true → (Lit.int .i64 a0_4).wf = true → (Lit.int .i64 a0_5).wf = true → (Lit.int .i64 a0_6).wf = true → laws_FnExactRootedBy.f a0_0 a0_1 a0_2 a0_3 a0_4 a0_5 a0_6 = some true := by
  intros
  unfold laws_FnExactRootedBy.f laws_szRow.f
  split <;> simp [laws_toRow.f, spec_RootedBy.f, impl_RootedBy.f]

end Go.Proofs.Ytkcekdedkfiddaa.Pure
