/- The row of the law FnExactSameGroups: whatever the arguments are, the law returns true, and they read behind the call as they read before. Nothing is asked of the arguments. -/
import Derived.Test.YtkcekdedkfiddaaRows
import Derived.Test.YtkcekdedkfiddaaQFnExactSameGroups3
import Derived.Test.YtkcekdedkfiddaaPureFnExactSameGroups
import Derived.Test.YtkcekdedkfiddaaOpen
import Derived.WalkKit
import Derived.ProofKit
import Derived.OpenShut
import Derived.ShutString
import Derived.ChangeOld
import Derived.Below
import Derived.SizedLaws
namespace Go.Proofs.Ytkcekdedkfiddaa.fnExactSameGroups
open Go.ChangeShapes Go.WideShapes Go.ChangeAt Go.RowKit Go.Proofs.Ytkcekdedkfiddaa.Open Go.Proofs.YtkcekdedkfiddaaW.PrintWords Go.Proofs.Ytkcekdedkfiddaa.QFnExactSameGroups
open Go.ChangeMaps (open_string shut_string)
set_option linter.unusedVariables false
theorem own : ownKnob Try.prog.godebug = none := by kernel_rfl
theorem laidOut : laidOutB Try.prog = true := by kernel_rfl
set_option maxRecDepth 100000 in
theorem opens0 {H : Type} {enc : TypeId × Value → H} {w : World} {base : Nat} {spare : Nat → Bool} {held : Bool} : ∃ G, Opens enc Try.prog w base spare held 63 (Kd.slice 91 k91) G ∧ ∀ a, G a → (a.length ≤ maxLen ∧ ∀ x0 ∈ a, ((x0.f0.length ≤ maxLen ∧ ∀ x1 ∈ x0.f0, (Lit.int .i64 x1).wf = true))) :=
  ⟨_, (opens_slice Try.underlying63 (by kernel_rfl) (opens_iso (fun x : S91 => x.f0) (fun p => ⟨p⟩) (fun _ => rfl) (opens_struct Try.underlying91 (by kernel_rfl) (opensF_last rfl rfl (opens_slice Try.underlying71 (by kernel_rfl) (opens_int Try.underlying3 (by kernel_rfl))))))), fun a h => h⟩
set_option maxRecDepth 100000 in
theorem opens1 {H : Type} {enc : TypeId × Value → H} {w : World} {base : Nat} {spare : Nat → Bool} {held : Bool} : ∃ G, Opens enc Try.prog w base spare held 63 (Kd.slice 91 k91) G ∧ ∀ a, G a → (a.length ≤ maxLen ∧ ∀ x0 ∈ a, ((x0.f0.length ≤ maxLen ∧ ∀ x1 ∈ x0.f0, (Lit.int .i64 x1).wf = true))) :=
  ⟨_, (opens_slice Try.underlying63 (by kernel_rfl) (opens_iso (fun x : S91 => x.f0) (fun p => ⟨p⟩) (fun _ => rfl) (opens_struct Try.underlying91 (by kernel_rfl) (opensF_last rfl rfl (opens_slice Try.underlying71 (by kernel_rfl) (opens_int Try.underlying3 (by kernel_rfl))))))), fun a h => h⟩
set_option maxRecDepth 100000 in
theorem lifted (os : Os) (started : os.Started) (H : Type) (enc : TypeId × Value → H) :
    ReturnsInHanded {} Try.checked os 12 .any (Rows.fnExactSameGroupsSpec.pre6 enc Try.prog Try.f12 Rows.fnExactSameGroupsRow.domain false) (Rows.fnExactSameGroupsSpec.post enc Try.prog Try.f12 false true false false) := by
  refine returnsInHanded_of_change_sized (C := Try.checked) own started (by kernel_rfl) Try.func12
    (ChangeSpec.witness6 (enc := enc) (C := Try.checked) false ⟨#[], #[.slice none 0 0, .slice none 0 0], []⟩ 8 (by kernel_rfl) (by kernel_rfl) (by kernel_rfl) (by kernel_rfl)) ?_
  intro W base args ds gs before hval0 hW hcnd hsz0 _
  have hval : ∀ (j : Nat) t v, Try.f12.params[j]? = some t → args[j]? = some v → Value.okWide Try.prog W .any base t v := hval0
  have hW' := hW
  obtain ⟨p, q, hA0, hV, rfl, hfz, hnd⟩ := hW
  have hA : DataW.TrodAll enc Try.prog W 0 (fun _ => true) true Try.f12.params.toList args.toList ds p := hA0
  rw [Try.params12] at hA hval
  obtain ⟨v0, vs0, d0, ds0, p0, q0, hargs, rfl, rfl, h0, r0⟩ := trodAll_cons hA
  obtain ⟨v1, vs1, d1, ds1, p1, q1, rfl, rfl, rfl, h1, r1⟩ := trodAll_cons r0
  obtain ⟨rfl, rfl, rfl⟩ := trodAll_nil r1
  obtain rfl : args = #[v0, v1] := by cases args; simp_all
  obtain ⟨rfl, rfl⟩ := trodVars_none hV
  have k0 := h0
  have lt0 : ∀ x ∈ p0, x.block < W.heap.size := by obtain ⟨m, hm⟩ := k0; exact DataW.trod_lt m _ _ _ hm
  obtain ⟨G0, o0, og0⟩ := opens0 (enc := enc) (w := W) (base := 0) (spare := fun _ => true) (held := true)
  obtain ⟨A0, len0, c0, rfl⟩ := okWide_slice Try.underlying63 (hval 0 63 v0 rfl rfl)
  obtain ⟨l0, ⟨B0, e0, ee0, hc0, hr0⟩, g0⟩ := top_one rfl o0 (fun cs h => by cases h) h0
  obtain ⟨rfl, rfl, rfl⟩ : A0 = B0 ∧ len0 = l0.length ∧ c0 = e0 := by simpa using ee0
  replace g0 := og0 _ g0
  have k1 := h1
  have lt1 : ∀ x ∈ p1, x.block < W.heap.size := by obtain ⟨m, hm⟩ := k1; exact DataW.trod_lt m _ _ _ hm
  obtain ⟨G1, o1, og1⟩ := opens1 (enc := enc) (w := W) (base := 0) (spare := fun _ => true) (held := true)
  obtain ⟨A1, len1, c1, rfl⟩ := okWide_slice Try.underlying63 (hval 1 63 v1 rfl rfl)
  obtain ⟨l1, ⟨B1, e1, ee1, hc1, hr1⟩, g1⟩ := top_one rfl o1 (fun cs h => by cases h) h1
  obtain ⟨rfl, rfl, rfl⟩ : A1 = B1 ∧ len1 = l1.length ∧ c1 = e1 := by simpa using ee1
  replace g1 := og1 _ g1
  obtain ⟨k, h⟩ := Pure.FnExactSameGroups l0 l1 g0 g1
  clear hA0 hval0 hsz0
  refine Calls.mono (laws_FnExactSameGroups.calls k _ _ _ _ _ _ true W hr0 hc0 hr1 hc1 h) fun e W' hh => ?_
  obtain ⟨he, bel0⟩ := hh
  have bel : Below W.heap.size W W' := bel0
  subst he
  exact ⟨_, rfl, _, _, _, [], _, [], hW', trodAll_mk1 (shut_bool Try.underlying4 _), (trodAll_cons_mk (Below.trod laidOut (by kernel_rfl) (of_decide_eq_true (by kernel_rfl)) k0 bel lt0) (trodAll_cons_mk (Below.trod laidOut (by kernel_rfl) (of_decide_eq_true (by kernel_rfl)) k1 bel lt1) trodAll_mk0)), rfl, bel.frame _, fun h => by cases h⟩
theorem over : Rows.fnExactSameGroupsRow.holds Try.pinned (OpenSpec.ofChange Rows.fnExactSameGroupsSpec) :=
  OpenClaim.holds_of_wide 12 Try.f12 rfl rfl rfl rfl rfl rfl rfl ⟨rfl, rfl, rfl, rfl, rfl⟩ rfl rfl rfl rfl rfl (by kernel_rfl) Try.func12 (by kernel_rfl)
    (of_decide_eq_true (by kernel_rfl)) (by unfold Func.isWrapper; first | (rw [if_pos (by decide +kernel)]; kernel_rfl) | (rw [if_neg (by decide +kernel)]; exact ⟨rfl, rfl⟩))
    (fun os started H enc _ => lifted os started H enc)
theorem proved : Rows.FnExactSameGroupsSaid := over
#print axioms proved
end Go.Proofs.Ytkcekdedkfiddaa.fnExactSameGroups
namespace Go.Proofs.Ytkcekdedkfiddaa
/-- The row, under a short name, for the claim. -/
theorem fnExactSameGroups_holds : Rows.FnExactSameGroupsSaid := fnExactSameGroups.proved
end Go.Proofs.Ytkcekdedkfiddaa
