/- The row of the law FnExactRootedBy: whatever the arguments are, the law returns true, and they read behind the call as they read before. Nothing is asked of the arguments. -/
import Derived.Test.YtkcekdedkfiddaaRows
import Derived.Test.YtkcekdedkfiddaaPFnExactRootedByx1
import Derived.Test.YtkcekdedkfiddaaPureFnExactRootedBy
import Derived.Test.YtkcekdedkfiddaaOpen
import Derived.WalkKit
import Derived.ProofKit
import Derived.OpenShut
import Derived.ShutString
import Derived.ChangeOld
import Derived.Below
import Derived.SizedLaws
namespace Go.Proofs.Ytkcekdedkfiddaa.fnExactRootedBy
open Go.ChangeShapes Go.WideShapes Go.ChangeAt Go.RowKit Go.Proofs.Ytkcekdedkfiddaa.Open Go.Proofs.YtkcekdedkfiddaaW.PrintWords Go.Proofs.Ytkcekdedkfiddaa.PFnExactRootedBy
open Go.ChangeMaps (open_string shut_string)
set_option linter.unusedVariables false
theorem own : ownKnob Try.prog.godebug = none := by kernel_rfl
theorem laidOut : laidOutB Try.prog = true := by kernel_rfl
set_option maxRecDepth 100000 in
theorem opens0 {H : Type} {enc : TypeId × Value → H} {w : World} {base : Nat} {spare : Nat → Bool} {held : Bool} : ∃ G, Opens enc Try.prog w base spare held 25 (Kd.pair Kd.string (Kd.pair (Kd.int .i64) (Kd.pair (Kd.int .i64) (Kd.pair (Kd.int .i64) (Kd.pair (Kd.int .i64) (Kd.pair (Kd.int .i64) (Kd.int .i64))))))) G ∧ ∀ a, G a → a.1.size ≤ maxLen ∧ (Lit.int .i64 a.2.1).wf = true ∧ (Lit.int .i64 a.2.2.1).wf = true ∧ (Lit.int .i64 a.2.2.2.1).wf = true ∧ (Lit.int .i64 a.2.2.2.2.1).wf = true ∧ (Lit.int .i64 a.2.2.2.2.2.1).wf = true ∧ (Lit.int .i64 a.2.2.2.2.2.2).wf = true :=
  ⟨_, (opens_struct Try.underlying25 (by kernel_rfl) (opensF_cons rfl rfl (opens_string Try.underlying9 (by kernel_rfl)) (opensF_cons rfl rfl (opens_int Try.underlying3 (by kernel_rfl)) (opensF_cons rfl rfl (opens_int Try.underlying3 (by kernel_rfl)) (opensF_cons rfl rfl (opens_int Try.underlying3 (by kernel_rfl)) (opensF_cons rfl rfl (opens_int Try.underlying3 (by kernel_rfl)) (opensF_cons rfl rfl (opens_int Try.underlying3 (by kernel_rfl)) (opensF_last rfl rfl (opens_int Try.underlying3 (by kernel_rfl)))))))))), fun a h => h⟩
set_option maxRecDepth 100000 in
theorem lifted (os : Os) (started : os.Started) (H : Type) (enc : TypeId × Value → H) :
    ReturnsInHanded {} Try.checked os 6 .any (Rows.fnExactRootedBySpec.pre6 enc Try.prog Try.f6 Rows.fnExactRootedByRow.domain false) (Rows.fnExactRootedBySpec.post enc Try.prog Try.f6 false true false false) := by
  refine returnsInHanded_of_change_sized (C := Try.checked) own started (by kernel_rfl) Try.func6
    (ChangeSpec.witness6 (enc := enc) (C := Try.checked) false ⟨#[], #[.agg #[.string ByteArray.empty, .int .i64 0, .int .i64 0, .int .i64 0, .int .i64 0, .int .i64 0, .int .i64 0]], []⟩ 8 (by kernel_rfl) (by kernel_rfl) (by kernel_rfl) (by kernel_rfl)) ?_
  intro W base args ds gs before hval0 hW hcnd hsz0 _
  have hval : ∀ (j : Nat) t v, Try.f6.params[j]? = some t → args[j]? = some v → Value.okWide Try.prog W .any base t v := hval0
  have hW' := hW
  obtain ⟨p, q, hA0, hV, rfl, hfz, hnd⟩ := hW
  have hA : DataW.TrodAll enc Try.prog W 0 (fun _ => true) true Try.f6.params.toList args.toList ds p := hA0
  rw [Try.params6] at hA hval
  obtain ⟨v0, vs0, d0, ds0, p0, q0, hargs, rfl, rfl, h0, r0⟩ := trodAll_cons hA
  obtain ⟨rfl, rfl, rfl⟩ := trodAll_nil r0
  obtain rfl : args = #[v0] := by cases args; simp_all
  obtain ⟨rfl, rfl⟩ := trodVars_none hV
  have k0 := h0
  have lt0 : ∀ x ∈ p0, x.block < W.heap.size := by obtain ⟨m, hm⟩ := k0; exact DataW.trod_lt m _ _ _ hm
  obtain ⟨G0, o0, og0⟩ := opens0 (enc := enc) (w := W) (base := 0) (spare := fun _ => true) (held := true)
  obtain ⟨⟨a0_0, a0_1, a0_2, a0_3, a0_4, a0_5, a0_6⟩, cs0, rfl, K0, g0⟩ := top_struct Try.underlying25 (hval 0 25 v0 rfl rfl) o0 h0
  replace g0 := og0 _ g0
  obtain ⟨_, _, rfl, rfl, _, _, rfl, rfl, _, _, rfl, rfl, _, _, rfl, rfl, _, _, rfl, rfl, _, _, rfl, rfl, rfl⟩ := K0
  have h := Pure.FnExactRootedBy a0_0 a0_1 a0_2 a0_3 a0_4 a0_5 a0_6 g0.1 g0.2.1 g0.2.2.1 g0.2.2.2.1 g0.2.2.2.2.1 g0.2.2.2.2.2.1 g0.2.2.2.2.2.2
  clear hA0 hval0 hsz0
  refine Calls.mono (laws_FnExactRootedBy.calls _ _ _ _ _ _ _ true W h) fun e W' hh => ?_
  obtain ⟨he, bel0⟩ := hh
  have bel : Below W.heap.size W W' := bel0
  subst he
  exact ⟨_, rfl, _, _, _, [], _, [], hW', trodAll_mk1 (shut_bool Try.underlying4 _), (trodAll_cons_mk (Below.trod laidOut (by kernel_rfl) (of_decide_eq_true (by kernel_rfl)) k0 bel lt0) trodAll_mk0), rfl, bel.frame _, fun h => by cases h⟩
theorem over : Rows.fnExactRootedByRow.holds Try.pinned (OpenSpec.ofChange Rows.fnExactRootedBySpec) :=
  OpenClaim.holds_of_wide 6 Try.f6 rfl rfl rfl rfl rfl rfl rfl ⟨rfl, rfl, rfl, rfl, rfl⟩ rfl rfl rfl rfl rfl (by kernel_rfl) Try.func6 (by kernel_rfl)
    (of_decide_eq_true (by kernel_rfl)) (by unfold Func.isWrapper; first | (rw [if_pos (by decide +kernel)]; kernel_rfl) | (rw [if_neg (by decide +kernel)]; exact ⟨rfl, rfl⟩))
    (fun os started H enc _ => lifted os started H enc)
theorem proved : Rows.FnExactRootedBySaid := over
#print axioms proved
end Go.Proofs.Ytkcekdedkfiddaa.fnExactRootedBy
namespace Go.Proofs.Ytkcekdedkfiddaa
/-- The row, under a short name, for the claim. -/
theorem fnExactRootedBy_holds : Rows.FnExactRootedBySaid := fnExactRootedBy.proved
end Go.Proofs.Ytkcekdedkfiddaa
