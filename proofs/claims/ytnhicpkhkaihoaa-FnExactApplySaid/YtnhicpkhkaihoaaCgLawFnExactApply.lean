/- The law FnExactApply is proved: whatever the arguments are, it returns true, and they read behind the call as they read before. Conditions: none; nothing is asked of the arguments. -/
import Derived.Test.YtnhicpkhkaihoaaRows
import Derived.Test.YtnhicpkhkaihoaaCgHpW
import Derived.Test.YtnhicpkhkaihoaaCgRowO
import Derived.WalkKit
import Derived.ProofKit
import Derived.OpenShut
import Derived.ShutString
import Derived.ChangeOld
import Derived.Below
import Derived.SizedLaws
/- The row of the law FnExactApply: whatever the arguments are, the law returns true, and they read behind the call as they read before. Nothing is asked of the arguments. -/
namespace Go.Proofs.Ytnhicpkhkaihoaa.fnExactApply
open Go Go.ChangeShapes Go.WideShapes Go.ChangeAt Go.RowKit Go.Proofs.Ytnhicpkhkaihoaa.Open Go.Proofs.Ytnhicpkhkaihoaa.Eng Go.Proofs.Ytnhicpkhkaihoaa.P
open Go.ChangeMaps (open_string shut_string)
set_option linter.unusedVariables false
theorem own : ownKnob Try.prog.godebug = none := by kernel_rfl
theorem laidOut : laidOutB Try.prog = true := by kernel_rfl
theorem calls {W : World} {a0 : AHeap} {cs0 : List Value} (K0 : dHeap.K W a0 cs0) (g0 : goodtoHp a0) {a1 : AOp} {cs1 : List Value} (K1 : dOp.K W a1 cs1) (g1 : goodtoOp a1) :
    Calls Try.prog 10 #[.agg ⟨cs0⟩, .agg ⟨cs1⟩] W fun e W' => e = .returned (.bool true) ∧ Below W.heap.size W W' := by
  obtain ⟨ρ0, s0, es0, L0, A0, E0⟩ := dHeap.lay (C := ⟨Try.prog, W⟩) rel0 (fun _ _ => rfl) K0
  obtain ⟨ρ1, s1, es1, L1, A1, E1⟩ := dOp.lay (C := ⟨Try.prog, W⟩) L0.rel L0.top K1
  obtain ⟨v0_0, v0_1, v0_2, v0_3, F0_0, F0_1, F0_2, F0_3, rfl, T0_0, T0_1, T0_2, T0_3⟩ := heap_cells (dHeap.E_ext L1.ext E0)
  obtain rfl := op_cells E1
  refine calls_of (C := ⟨Try.prog, W⟩) (g := laws_FnExactApply.sg) (es := [.agg #[v0_0, v0_1, v0_2, v0_3], .agg #[I (toOp a1).kind, I (toOp a1).a, I (toOp a1).b, I (toOp a1).c, .string (toOp a1).site]]) (args := [.agg ⟨cs0⟩, .agg ⟨cs1⟩]) (sv := [v0_0, v0_1, v0_2, v0_3]) (vs := [I (toOp a1).kind, I (toOp a1).a, I (toOp a1).b, I (toOp a1).c, .string (toOp a1).site]) (cs := [tR tO (toHp a0).objs, tR tW (toHp a0).weaks, tI (toHp a0).buffer, tS (toHp a0).sites]) (D := ((F0_0 ++ (F0_1 ++ (F0_2 ++ (F0_3 ++ [])))) ++ ([] ++ []))) L1.rel L1.top
    ⟨⟨_, rfl, (All2_mono (fun _ _ => CR_mono L1.sub) A0)⟩, ⟨_, rfl, A1⟩, trivial⟩ ?_ rfl (laws_FnExactApply.cl2 (FnExactApply_t g0 g1 rfl))
  exact (par_g (cells_t T0_0 (cells_t T0_1 (cells_t T0_2 (cells_t T0_3 cells_0)))) (par_g (cells_v rfl (cells_v rfl (cells_v rfl (cells_v rfl (cells_v rfl cells_0))))) par_n))
set_option maxRecDepth 100000 in
theorem lifted (os : Os) (started : os.Started) (H : Type) (enc : TypeId × Value → H) :
    ReturnsInHanded {} Try.checked os 10 .any (Rows.fnExactApplySpec.pre6 enc Try.prog Try.f10 Rows.fnExactApplyRow.domain false) (Rows.fnExactApplySpec.post enc Try.prog Try.f10 false true false false) := by
  refine returnsInHanded_of_change_sized (C := Try.checked) own started (by kernel_rfl) Try.func10
    (ChangeSpec.witness6 (enc := enc) (C := Try.checked) false ⟨#[], #[.agg #[.slice none 0 0, .slice none 0 0, .slice none 0 0, .slice none 0 0], .agg #[.int .i64 0, .int .i64 0, .int .i64 0, .int .i64 0, .string ByteArray.empty]], []⟩ 8 (by kernel_rfl) (by kernel_rfl) (by kernel_rfl) (by kernel_rfl)) ?_
  intro W base args ds gs before hval0 hW hcnd hsz0 _
  have hval : ∀ (j : Nat) t v, Try.f10.params[j]? = some t → args[j]? = some v → Value.okWide Try.prog W .any base t v := hval0
  have hW' := hW
  obtain ⟨p, q, hA0, hV, rfl, hfz, hnd⟩ := hW
  have hA : DataW.TrodAll enc Try.prog W 0 (fun _ => true) true Try.f10.params.toList args.toList ds p := hA0
  rw [Try.params10] at hA hval
  obtain ⟨v0, vs0, d0, ds0, p0, q0, hargs, rfl, rfl, h0, r0⟩ := trodAll_cons hA
  obtain ⟨v1, vs1, d1, ds1, p1, q1, rfl, rfl, rfl, h1, r1⟩ := trodAll_cons r0
  obtain ⟨rfl, rfl, rfl⟩ := trodAll_nil r1
  obtain rfl : args = #[v0, v1] := by cases args; simp_all
  obtain ⟨rfl, rfl⟩ := trodVars_none hV
  have k0 := h0
  have lt0 : ∀ x ∈ p0, x.block < W.heap.size := by obtain ⟨m, hm⟩ := k0; exact DataW.trod_lt m _ _ _ hm
  obtain ⟨G0, o0, og0⟩ := opensHeap (enc := enc) (w := W) (base := 0) (spare := fun _ => true) (held := true)
  obtain ⟨a0, cs0, rfl, K0, g0⟩ := top_struct Try.underlying27 (hval 0 27 v0 rfl rfl) o0 h0
  replace g0 := og0 _ g0
  have k1 := h1
  have lt1 : ∀ x ∈ p1, x.block < W.heap.size := by obtain ⟨m, hm⟩ := k1; exact DataW.trod_lt m _ _ _ hm
  obtain ⟨G1, o1, og1⟩ := opensOp (enc := enc) (w := W) (base := 0) (spare := fun _ => true) (held := true)
  obtain ⟨a1, cs1, rfl, K1, g1⟩ := top_struct Try.underlying86 (hval 1 86 v1 rfl rfl) o1 h1
  replace g1 := og1 _ g1
  clear hA0 hval0 hsz0
  refine Calls.mono (calls K0 g0 K1 g1) fun e W' hh => ?_
  obtain ⟨he, bel0⟩ := hh
  have bel : Below W.heap.size W W' := bel0
  subst he
  exact ⟨_, rfl, _, _, _, [], _, [], hW', trodAll_mk1 (shut_bool Try.underlying4 _), (trodAll_cons_mk (Below.trod laidOut (by kernel_rfl) (of_decide_eq_true (by kernel_rfl)) k0 bel lt0) (trodAll_cons_mk (Below.trod laidOut (by kernel_rfl) (of_decide_eq_true (by kernel_rfl)) k1 bel lt1) trodAll_mk0)), rfl, bel.frame _, fun h => by cases h⟩
theorem over : Rows.fnExactApplyRow.holds Try.pinned (OpenSpec.ofChange Rows.fnExactApplySpec) :=
  OpenClaim.holds_of_wide 10 Try.f10 rfl rfl rfl rfl rfl rfl rfl ⟨rfl, rfl, rfl, rfl, rfl⟩ rfl rfl rfl rfl rfl (by kernel_rfl) Try.func10 (by kernel_rfl)
    (of_decide_eq_true (by kernel_rfl)) (by unfold Func.isWrapper; first | (rw [if_pos (by decide +kernel)]; kernel_rfl) | (rw [if_neg (by decide +kernel)]; exact ⟨rfl, rfl⟩))
    (fun os started H enc _ => lifted os started H enc)
theorem proved : Rows.FnExactApplySaid := over
#print axioms proved
end Go.Proofs.Ytnhicpkhkaihoaa.fnExactApply
namespace Go.Proofs.Ytnhicpkhkaihoaa
/-- The row, under a short name, for the claim. -/
theorem fnExactApply_holds : Rows.FnExactApplySaid := fnExactApply.proved
end Go.Proofs.Ytnhicpkhkaihoaa
