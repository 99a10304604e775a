/- The row of the law FnExactReadEvent: whatever the arguments are, the law returns true, and they read behind the call as they read before. Nothing is asked of the arguments. -/
import Derived.Test.YtnhicpkhkaihoaaRows
import Derived.Test.YtnhicpkhkaihoaaCeWireI
import Derived.WalkKit
import Derived.ProofKit
import Derived.OpenShut
import Derived.ShutString
import Derived.ChangeOld
import Derived.Below
import Derived.SizedLaws
namespace Go.Proofs.Ytnhicpkhkaihoaa.fnExactReadEvent
open Go Go.ChangeShapes Go.WideShapes Go.ChangeAt Go.RowKit Go.Proofs.Ytnhicpkhkaihoaa.Open Go.Proofs.Ytnhicpkhkaihoaa.Eng Go.Proofs.Ytnhicpkhkaihoaa.P
open Go.ChangeMaps (open_string shut_string)
set_option linter.unusedVariables false
theorem own : ownKnob Try.prog.godebug = none := by kernel_rfl
theorem laidOut : laidOutB Try.prog = true := by kernel_rfl
theorem calls {W : World} {a0 : APen} {cs0 : List Value} (K0 : dPen.K W a0 cs0) (g0 : goodtoPen a0) {a1 : ByteArray} (g1 : a1.size ≤ maxLen) :
    Calls Try.prog 6 #[.agg ⟨cs0⟩, .string a1] W fun e W' => e = .returned (.bool true) ∧ Below W.heap.size W W' := by
  obtain ⟨ρ0, s0, es0, L0, A0, E0⟩ := dPen.lay (C := ⟨Try.prog, W⟩) rel0 (fun _ _ => rfl) K0
  obtain ⟨v0, F0, rfl, T0⟩ := pen_cells E0
  refine calls_of (C := ⟨Try.prog, W⟩) (g := laws_FnExactReadEvent.sg) (es := [.agg #[I (toPen a0).1, v0], .string a1]) (args := [.agg ⟨cs0⟩, .string a1]) (sv := [v0]) (vs := [I (toPen a0).1, .string a1]) (cs := [tS (toPen a0).2]) (D := ((F0 ++ []) ++ ([] ++ []))) L0.rel L0.top
    ⟨⟨_, rfl, A0⟩, rfl, trivial⟩ ?_ rfl (laws_FnExactReadEvent.cl2 (FnExactReadEvent_t g0 g1 rfl))
  exact (par_g (cells_v rfl (cells_t T0 cells_0)) (par_o (cells_v rfl cells_0) par_n))
set_option maxRecDepth 100000 in
theorem lifted (os : Os) (started : os.Started) (H : Type) (enc : TypeId × Value → H) :
    ReturnsInHanded {} Try.checked os 6 .any (Rows.fnExactReadEventSpec.pre6 enc Try.prog Try.f6 Rows.fnExactReadEventRow.domain false) (Rows.fnExactReadEventSpec.post enc Try.prog Try.f6 false true false false) := by
  refine returnsInHanded_of_change_sized (C := Try.checked) own started (by kernel_rfl) Try.func6
    (ChangeSpec.witness6 (enc := enc) (C := Try.checked) false ⟨#[], #[.agg #[.int .i64 0, .slice none 0 0], .string ByteArray.empty], []⟩ 8 (by kernel_rfl) (by kernel_rfl) (by kernel_rfl) (by kernel_rfl)) ?_
  intro W base args ds gs before hval0 hW hcnd hsz0 _
  have hval : ∀ (j : Nat) t v, Try.f6.params[j]? = some t → args[j]? = some v → Value.okWide Try.prog W .any base t v := hval0
  have hW' := hW
  obtain ⟨p, q, hA0, hV, rfl, hfz, hnd⟩ := hW
  have hA : DataW.TrodAll enc Try.prog W 0 (fun _ => true) true Try.f6.params.toList args.toList ds p := hA0
  rw [Try.params6] at hA hval
  obtain ⟨v0, vs0, d0, ds0, p0, q0, hargs, rfl, rfl, h0, r0⟩ := trodAll_cons hA
  obtain ⟨v1, vs1, d1, ds1, p1, q1, rfl, rfl, rfl, h1, r1⟩ := trodAll_cons r0
  obtain ⟨rfl, rfl, rfl⟩ := trodAll_nil r1
  obtain rfl : args = #[v0, v1] := by cases args; simp_all
  obtain ⟨rfl, rfl⟩ := trodVars_none hV
  have k0 := h0
  have lt0 : ∀ x ∈ p0, x.block < W.heap.size := by obtain ⟨m, hm⟩ := k0; exact DataW.trod_lt m _ _ _ hm
  obtain ⟨G0, o0, og0⟩ := opensPen (enc := enc) (w := W) (base := 0) (spare := fun _ => true) (held := true)
  obtain ⟨a0, cs0, rfl, K0, g0⟩ := top_struct Try.underlying53 (hval 0 53 v0 rfl rfl) o0 h0
  replace g0 := og0 _ g0
  have k1 := h1
  have lt1 : ∀ x ∈ p1, x.block < W.heap.size := by obtain ⟨m, hm⟩ := k1; exact DataW.trod_lt m _ _ _ hm
  obtain ⟨a1, rfl, _, _, g1⟩ := open_string Try.underlying9 (hval 1 9 v1 rfl rfl) h1
  clear hA0 hval0 hsz0
  refine Calls.mono (calls K0 g0 g1) fun e W' hh => ?_
  obtain ⟨he, bel0⟩ := hh
  have bel : Below W.heap.size W W' := bel0
  subst he
  exact ⟨_, rfl, _, _, _, [], _, [], hW', trodAll_mk1 (shut_bool Try.underlying4 _), (trodAll_cons_mk (Below.trod laidOut (by kernel_rfl) (of_decide_eq_true (by kernel_rfl)) k0 bel lt0) (trodAll_cons_mk (Below.trod laidOut (by kernel_rfl) (of_decide_eq_true (by kernel_rfl)) k1 bel lt1) trodAll_mk0)), rfl, bel.frame _, fun h => by cases h⟩
theorem over : Rows.fnExactReadEventRow.holds Try.pinned (OpenSpec.ofChange Rows.fnExactReadEventSpec) :=
  OpenClaim.holds_of_wide 6 Try.f6 rfl rfl rfl rfl rfl rfl rfl ⟨rfl, rfl, rfl, rfl, rfl⟩ rfl rfl rfl rfl rfl (by kernel_rfl) Try.func6 (by kernel_rfl)
    (of_decide_eq_true (by kernel_rfl)) (by unfold Func.isWrapper; first | (rw [if_pos (by decide +kernel)]; kernel_rfl) | (rw [if_neg (by decide +kernel)]; exact ⟨rfl, rfl⟩))
    (fun os started H enc _ => lifted os started H enc)
theorem proved : Rows.FnExactReadEventSaid := over
#print axioms proved
end Go.Proofs.Ytnhicpkhkaihoaa.fnExactReadEvent
namespace Go.Proofs.Ytnhicpkhkaihoaa
/-- The row, under a short name, for the claim. -/
theorem fnExactReadEvent_holds : Rows.FnExactReadEventSaid := fnExactReadEvent.proved
end Go.Proofs.Ytnhicpkhkaihoaa
