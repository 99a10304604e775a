/- The row of the law FnExactSamePen: whatever the arguments are, the law returns true, and they read behind the call as they read before. Nothing is asked of the arguments. -/
import Derived.Test.YtkcekdedkfiddaaRows
import Derived.Test.YtkcekdedkfiddaaPFnExactSamePenx3
import Derived.Test.YtkcekdedkfiddaaPureFnExactSamePen
import Derived.Test.YtkcekdedkfiddaaOpen
import Derived.WalkKit
import Derived.ProofKit
import Derived.OpenShut
import Derived.ShutString
import Derived.ChangeOld
import Derived.Below
import Derived.SizedLaws
namespace Go.Proofs.Ytkcekdedkfiddaa.fnExactSamePen
open Go.ChangeShapes Go.WideShapes Go.ChangeAt Go.RowKit Go.Proofs.Ytkcekdedkfiddaa.Open Go.Proofs.YtkcekdedkfiddaaW.PrintWords Go.Proofs.Ytkcekdedkfiddaa.PFnExactSamePen
open Go.ChangeMaps (open_string shut_string)
set_option linter.unusedVariables false
theorem own : ownKnob Try.prog.godebug = none := by kernel_rfl
theorem laidOut : laidOutB Try.prog = true := by kernel_rfl
set_option maxRecDepth 100000 in
theorem opens0 {H : Type} {enc : TypeId × Value → H} {w : World} {base : Nat} {spare : Nat → Bool} {held : Bool} : ∃ G, Opens enc Try.prog w base spare held 45 (Kd.pair (Kd.int .i64) (Kd.slice 9 Kd.string)) G ∧ ∀ a, G a → (Lit.int .i64 a.1).wf = true ∧ (a.2.length ≤ maxLen ∧ ∀ x ∈ a.2, x.size ≤ maxLen) :=
  ⟨_, (opens_struct Try.underlying45 (by kernel_rfl) (opensF_cons rfl rfl (opens_int Try.underlying3 (by kernel_rfl)) (opensF_last rfl rfl (opens_slice Try.underlying38 (by kernel_rfl) (opens_string Try.underlying9 (by kernel_rfl)))))), fun a h => h⟩
set_option maxRecDepth 100000 in
theorem opens1 {H : Type} {enc : TypeId × Value → H} {w : World} {base : Nat} {spare : Nat → Bool} {held : Bool} : ∃ G, Opens enc Try.prog w base spare held 45 (Kd.pair (Kd.int .i64) (Kd.slice 9 Kd.string)) G ∧ ∀ a, G a → (Lit.int .i64 a.1).wf = true ∧ (a.2.length ≤ maxLen ∧ ∀ x ∈ a.2, x.size ≤ maxLen) :=
  ⟨_, (opens_struct Try.underlying45 (by kernel_rfl) (opensF_cons rfl rfl (opens_int Try.underlying3 (by kernel_rfl)) (opensF_last rfl rfl (opens_slice Try.underlying38 (by kernel_rfl) (opens_string Try.underlying9 (by kernel_rfl)))))), fun a h => h⟩
set_option maxRecDepth 100000 in
theorem lifted (os : Os) (started : os.Started) (H : Type) (enc : TypeId × Value → H) :
    ReturnsInHanded {} Try.checked os 9 .any (Rows.fnExactSamePenSpec.pre6 enc Try.prog Try.f9 Rows.fnExactSamePenRow.domain false) (Rows.fnExactSamePenSpec.post enc Try.prog Try.f9 false true false false) := by
  refine returnsInHanded_of_change_sized (C := Try.checked) own started (by kernel_rfl) Try.func9
    (ChangeSpec.witness6 (enc := enc) (C := Try.checked) false ⟨#[], #[.agg #[.int .i64 0, .slice none 0 0], .agg #[.int .i64 0, .slice none 0 0]], []⟩ 8 (by kernel_rfl) (by kernel_rfl) (by kernel_rfl) (by kernel_rfl)) ?_
  intro W base args ds gs before hval0 hW hcnd hsz0 _
  have hval : ∀ (j : Nat) t v, Try.f9.params[j]? = some t → args[j]? = some v → Value.okWide Try.prog W .any base t v := hval0
  have hW' := hW
  obtain ⟨p, q, hA0, hV, rfl, hfz, hnd⟩ := hW
  have hA : DataW.TrodAll enc Try.prog W 0 (fun _ => true) true Try.f9.params.toList args.toList ds p := hA0
  rw [Try.params9] at hA hval
  obtain ⟨v0, vs0, d0, ds0, p0, q0, hargs, rfl, rfl, h0, r0⟩ := trodAll_cons hA
  obtain ⟨v1, vs1, d1, ds1, p1, q1, rfl, rfl, rfl, h1, r1⟩ := trodAll_cons r0
  obtain ⟨rfl, rfl, rfl⟩ := trodAll_nil r1
  obtain rfl : args = #[v0, v1] := by cases args; simp_all
  obtain ⟨rfl, rfl⟩ := trodVars_none hV
  have k0 := h0
  have lt0 : ∀ x ∈ p0, x.block < W.heap.size := by obtain ⟨m, hm⟩ := k0; exact DataW.trod_lt m _ _ _ hm
  obtain ⟨G0, o0, og0⟩ := opens0 (enc := enc) (w := W) (base := 0) (spare := fun _ => true) (held := true)
  obtain ⟨⟨a0_0, l0_1⟩, cs0, rfl, K0, g0⟩ := top_struct Try.underlying45 (hval 0 45 v0 rfl rfl) o0 h0
  replace g0 := og0 _ g0
  obtain ⟨_, _, rfl, rfl, ⟨A0_1, c0_1, rfl, hc0_1, hr0_1⟩⟩ := K0
  have k1 := h1
  have lt1 : ∀ x ∈ p1, x.block < W.heap.size := by obtain ⟨m, hm⟩ := k1; exact DataW.trod_lt m _ _ _ hm
  obtain ⟨G1, o1, og1⟩ := opens1 (enc := enc) (w := W) (base := 0) (spare := fun _ => true) (held := true)
  obtain ⟨⟨a1_0, l1_1⟩, cs1, rfl, K1, g1⟩ := top_struct Try.underlying45 (hval 1 45 v1 rfl rfl) o1 h1
  replace g1 := og1 _ g1
  obtain ⟨_, _, rfl, rfl, ⟨A1_1, c1_1, rfl, hc1_1, hr1_1⟩⟩ := K1
  obtain ⟨k, h⟩ := Pure.FnExactSamePen a0_0 l0_1 a1_0 l1_1 g0.1 g0.2 g1.1 g1.2
  clear hA0 hval0 hsz0
  refine Calls.mono (laws_FnExactSamePen.calls k _ _ _ _ _ _ _ _ true W hr0_1 hc0_1 hr1_1 hc1_1 h) fun e W' hh => ?_
  obtain ⟨he, bel0⟩ := hh
  have bel : Below W.heap.size W W' := bel0
  subst he
  exact ⟨_, rfl, _, _, _, [], _, [], hW', trodAll_mk1 (shut_bool Try.underlying4 _), (trodAll_cons_mk (Below.trod laidOut (by kernel_rfl) (of_decide_eq_true (by kernel_rfl)) k0 bel lt0) (trodAll_cons_mk (Below.trod laidOut (by kernel_rfl) (of_decide_eq_true (by kernel_rfl)) k1 bel lt1) trodAll_mk0)), rfl, bel.frame _, fun h => by cases h⟩
theorem over : Rows.fnExactSamePenRow.holds Try.pinned (OpenSpec.ofChange Rows.fnExactSamePenSpec) :=
  OpenClaim.holds_of_wide 9 Try.f9 rfl rfl rfl rfl rfl rfl rfl ⟨rfl, rfl, rfl, rfl, rfl⟩ rfl rfl rfl rfl rfl (by kernel_rfl) Try.func9 (by kernel_rfl)
    (of_decide_eq_true (by kernel_rfl)) (by unfold Func.isWrapper; first | (rw [if_pos (by decide +kernel)]; kernel_rfl) | (rw [if_neg (by decide +kernel)]; exact ⟨rfl, rfl⟩))
    (fun os started H enc _ => lifted os started H enc)
theorem proved : Rows.FnExactSamePenSaid := over
#print axioms proved
end Go.Proofs.Ytkcekdedkfiddaa.fnExactSamePen
namespace Go.Proofs.Ytkcekdedkfiddaa
/-- The row, under a short name, for the claim. -/
theorem fnExactSamePen_holds : Rows.FnExactSamePenSaid := fnExactSamePen.proved
end Go.Proofs.Ytkcekdedkfiddaa
