/- The row of the law FnExactGraphOf: whatever the arguments are, the law returns true, and they read behind the call as they read before. Nothing is asked of the arguments. -/
import Derived.Test.YtnhicpkhkaihoaaRows
import Derived.Test.YtnhicpkhkaihoaaCcHpC
import Derived.WalkKit
import Derived.ProofKit
import Derived.OpenShut
import Derived.ShutString
import Derived.ChangeOld
import Derived.Below
import Derived.SizedLaws
namespace Go.Proofs.Ytnhicpkhkaihoaa.fnExactGraphOf
open Go Go.ChangeShapes Go.WideShapes Go.ChangeAt Go.RowKit Go.Proofs.Ytnhicpkhkaihoaa.Open Go.Proofs.Ytnhicpkhkaihoaa.Eng Go.Proofs.Ytnhicpkhkaihoaa.P
open Go.ChangeMaps (open_string shut_string)
set_option linter.unusedVariables false
theorem own : ownKnob Try.prog.godebug = none := by kernel_rfl
theorem laidOut : laidOutB Try.prog = true := by kernel_rfl
theorem calls {W : World} {a0 : AHeap} {cs0 : List Value} (K0 : dHeap.K W a0 cs0) (g0 : goodtoHp a0) :
    Calls Try.prog 11 #[.agg ⟨cs0⟩] W fun e W' => e = .returned (.bool true) ∧ Below W.heap.size W W' := by
  obtain ⟨ρ0, s0, es0, L0, A0, E0⟩ := dHeap.lay (C := ⟨Try.prog, W⟩) rel0 (fun _ _ => rfl) K0
  obtain ⟨v0_0, v0_1, v0_2, v0_3, F0_0, F0_1, F0_2, F0_3, rfl, T0_0, T0_1, T0_2, T0_3⟩ := heap_cells E0
  refine calls_of (C := ⟨Try.prog, W⟩) (g := laws_FnExactGraphOf.sg) (es := [.agg #[v0_0, v0_1, v0_2, v0_3]]) (args := [.agg ⟨cs0⟩]) (sv := [v0_0, v0_1, v0_2, v0_3]) (vs := []) (cs := [tR tO (toHp a0).objs, tR tW (toHp a0).weaks, tI (toHp a0).buffer, tS (toHp a0).sites]) (D := ((F0_0 ++ (F0_1 ++ (F0_2 ++ (F0_3 ++ [])))) ++ [])) L0.rel L0.top
    ⟨⟨_, rfl, A0⟩, trivial⟩ ?_ rfl (laws_FnExactGraphOf.cl2 (FnExactGraphOf_t g0 rfl))
  exact (par_g (cells_t T0_0 (cells_t T0_1 (cells_t T0_2 (cells_t T0_3 cells_0)))) par_n)
set_option maxRecDepth 100000 in
theorem lifted (os : Os) (started : os.Started) (H : Type) (enc : TypeId × Value → H) :
    ReturnsInHanded {} Try.checked os 11 .any (Rows.fnExactGraphOfSpec.pre6 enc Try.prog Try.f11 Rows.fnExactGraphOfRow.domain false) (Rows.fnExactGraphOfSpec.post enc Try.prog Try.f11 false true false false) := by
  refine returnsInHanded_of_change_sized (C := Try.checked) own started (by kernel_rfl) Try.func11
    (ChangeSpec.witness6 (enc := enc) (C := Try.checked) false ⟨#[], #[.agg #[.slice none 0 0, .slice none 0 0, .slice none 0 0, .slice none 0 0]], []⟩ 8 (by kernel_rfl) (by kernel_rfl) (by kernel_rfl) (by kernel_rfl)) ?_
  intro W base args ds gs before hval0 hW hcnd hsz0 _
  have hval : ∀ (j : Nat) t v, Try.f11.params[j]? = some t → args[j]? = some v → Value.okWide Try.prog W .any base t v := hval0
  have hW' := hW
  obtain ⟨p, q, hA0, hV, rfl, hfz, hnd⟩ := hW
  have hA : DataW.TrodAll enc Try.prog W 0 (fun _ => true) true Try.f11.params.toList args.toList ds p := hA0
  rw [Try.params11] at hA hval
  obtain ⟨v0, vs0, d0, ds0, p0, q0, hargs, rfl, rfl, h0, r0⟩ := trodAll_cons hA
  obtain ⟨rfl, rfl, rfl⟩ := trodAll_nil r0
  obtain rfl : args = #[v0] := by cases args; simp_all
  obtain ⟨rfl, rfl⟩ := trodVars_none hV
  have k0 := h0
  have lt0 : ∀ x ∈ p0, x.block < W.heap.size := by obtain ⟨m, hm⟩ := k0; exact DataW.trod_lt m _ _ _ hm
  obtain ⟨G0, o0, og0⟩ := opensHeap (enc := enc) (w := W) (base := 0) (spare := fun _ => true) (held := true)
  obtain ⟨a0, cs0, rfl, K0, g0⟩ := top_struct Try.underlying27 (hval 0 27 v0 rfl rfl) o0 h0
  replace g0 := og0 _ g0
  clear hA0 hval0 hsz0
  refine Calls.mono (calls K0 g0) fun e W' hh => ?_
  obtain ⟨he, bel0⟩ := hh
  have bel : Below W.heap.size W W' := bel0
  subst he
  exact ⟨_, rfl, _, _, _, [], _, [], hW', trodAll_mk1 (shut_bool Try.underlying4 _), (trodAll_cons_mk (Below.trod laidOut (by kernel_rfl) (of_decide_eq_true (by kernel_rfl)) k0 bel lt0) trodAll_mk0), rfl, bel.frame _, fun h => by cases h⟩
theorem over : Rows.fnExactGraphOfRow.holds Try.pinned (OpenSpec.ofChange Rows.fnExactGraphOfSpec) :=
  OpenClaim.holds_of_wide 11 Try.f11 rfl rfl rfl rfl rfl rfl rfl ⟨rfl, rfl, rfl, rfl, rfl⟩ rfl rfl rfl rfl rfl (by kernel_rfl) Try.func11 (by kernel_rfl)
    (of_decide_eq_true (by kernel_rfl)) (by unfold Func.isWrapper; first | (rw [if_pos (by decide +kernel)]; kernel_rfl) | (rw [if_neg (by decide +kernel)]; exact ⟨rfl, rfl⟩))
    (fun os started H enc _ => lifted os started H enc)
theorem proved : Rows.FnExactGraphOfSaid := over
#print axioms proved
end Go.Proofs.Ytnhicpkhkaihoaa.fnExactGraphOf
namespace Go.Proofs.Ytnhicpkhkaihoaa
/-- The row, under a short name, for the claim. -/
theorem fnExactGraphOf_holds : Rows.FnExactGraphOfSaid := fnExactGraphOf.proved
end Go.Proofs.Ytnhicpkhkaihoaa
