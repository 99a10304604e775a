/- The row of the law FnExactShowEvent: whatever the arguments are, the law returns true, and they read behind the call as they read before. Nothing is asked of the arguments. -/
import Derived.Test.YtmikdglafmfnfaaRows
import Derived.Test.YtmikdglafmfnfaaShowEv
import Derived.Test.YtmikdglafmfnfaaEngX
import Derived.WalkKit
import Derived.ProofKit
import Derived.OpenShut
import Derived.ShutString
import Derived.ChangeOld
import Derived.Below
import Derived.SizedLaws
namespace Go.Proofs.Ytmikdglafmfnfaa.fnExactShowEvent
open Go Go.ChangeShapes Go.WideShapes Go.ChangeAt Go.RowKit Go.Proofs.Ytmikdglafmfnfaa.Open Go.Proofs.Ytmikdglafmfnfaa.Eng Go.Proofs.Ytmikdglafmfnfaa.P
open Go.ChangeMaps (open_string shut_string)
set_option linter.unusedVariables false
theorem own : ownKnob Try.prog.godebug = none := by kernel_rfl
theorem laidOut : laidOutB Try.prog = true := by kernel_rfl
abbrev dPen := kPair (kInt .i64) (kSl kStr (Nat.succ_pos 0))
abbrev dOp := kPair (kInt .i64) (kPair (kInt .i64) (kPair (kInt .i64) (kPair (kInt .i64) kStr)))
abbrev dAns := kPair (kInt .i64) (kPair (kInt .i64) (kSl (kInt .i64) (Nat.succ_pos 0)))
set_option maxRecDepth 100000 in
theorem opens0 {H : Type} {enc : TypeId × Value → H} {w : World} {base : Nat} {spare : Nat → Bool} {held : Bool} : ∃ G, Opens enc Try.prog w base spare held 24 dPen G ∧ ∀ a, G a → (Lit.int .i64 a.1).wf = true ∧ (a.2.length ≤ maxLen ∧ ∀ x ∈ a.2, x.size ≤ maxLen) :=
  ⟨_, (opens_struct Try.underlying24 (by kernel_rfl) (opensF_cons rfl rfl (opens_int Try.underlying3 (by kernel_rfl)) (opensF_last rfl rfl (opens_slice Try.underlying22 (by kernel_rfl) (opens_string Try.underlying9 (by kernel_rfl)) (Nat.succ_pos 0))))), fun a h => h⟩
set_option maxRecDepth 100000 in
theorem opens1 {H : Type} {enc : TypeId × Value → H} {w : World} {base : Nat} {spare : Nat → Bool} {held : Bool} : ∃ G, Opens enc Try.prog w base spare held 26 dOp G ∧ ∀ a, G a → a.2.2.2.2.size ≤ maxLen :=
  ⟨_, (opens_struct Try.underlying26 (by kernel_rfl) (opensF_cons rfl rfl (opens_int Try.underlying3 (by kernel_rfl)) (opensF_cons rfl rfl (opens_int Try.underlying3 (by kernel_rfl)) (opensF_cons rfl rfl (opens_int Try.underlying3 (by kernel_rfl)) (opensF_cons rfl rfl (opens_int Try.underlying3 (by kernel_rfl)) (opensF_last rfl rfl (opens_string Try.underlying9 (by kernel_rfl)))))))), fun a h => h.2.2.2.2⟩
set_option maxRecDepth 100000 in
theorem opens2 {H : Type} {enc : TypeId × Value → H} {w : World} {base : Nat} {spare : Nat → Bool} {held : Bool} : ∃ G, Opens enc Try.prog w base spare held 29 dAns G ∧ ∀ a, G a → a.2.2.length ≤ maxLen :=
  ⟨_, (opens_struct Try.underlying29 (by kernel_rfl) (opensF_cons rfl rfl (opens_int Try.underlying3 (by kernel_rfl)) (opensF_cons rfl rfl (opens_int Try.underlying3 (by kernel_rfl)) (opensF_last rfl rfl (opens_slice Try.underlying27 (by kernel_rfl) (opens_int Try.underlying3 (by kernel_rfl)) (Nat.succ_pos 0)))))), fun a h => h.2.2.1⟩
theorem fm {α β : Type} (f : α → β) : ∀ l : List α, (l.flatMap fun x => [f x]) = l.map f
  | [] => rfl
  | a :: l => by rw [List.flatMap_cons, fm f l]; rfl
theorem pen_cells {s : St} {a : Int × List ByteArray} {es : List Value} (h : dPen.E s a es) : ∃ v D, es = [I a.1, v] ∧ TR s false (.l 1 (tS a.2)) v D := by
  obtain ⟨c, d, rfl, rfl, hd⟩ := h
  obtain ⟨F, hF⟩ := (rdt_sl (hsz := Nat.succ_pos 0) rdt_str).2 s _ _ hd
  obtain ⟨v, rfl, hv⟩ := TRs_one.1 hF
  refine ⟨v, F, rfl, ?_⟩
  have e : (a.2.flatMap fun b => [T.c (.string b)]) = tS a.2 := fm (fun b => T.c (.string b)) a.2
  rw [e] at hv; exact hv
theorem ans_cells {s : St} {a : Int × Int × List Int} {es : List Value} (h : dAns.E s a es) : ∃ v D, es = [I a.1, I a.2.1, v] ∧ TR s false (.l 1 (tI a.2.2)) v D := by
  obtain ⟨c, d, rfl, rfl, c2, d2, rfl, rfl, hd⟩ := h
  obtain ⟨F, hF⟩ := (rdt_sl (hsz := Nat.succ_pos 0) rdt_int).2 s _ _ hd
  obtain ⟨v, rfl, hv⟩ := TRs_one.1 hF
  refine ⟨v, F, rfl, ?_⟩
  have e : (a.2.2.flatMap fun b => [T.c (.int .i64 b)]) = tI a.2.2 := fm (fun b => T.c (.int .i64 b)) a.2.2
  rw [e] at hv; exact hv
theorem op_cells {s : St} {a : Int × Int × Int × Int × ByteArray} {es : List Value} (h : dOp.E s a es) : es = [I a.1, I a.2.1, I a.2.2.1, I a.2.2.2.1, .string a.2.2.2.2] := by
  obtain ⟨c, d, rfl, rfl, c2, d2, rfl, rfl, c3, d3, rfl, rfl, c4, d4, rfl, rfl, hd⟩ := h
  subst hd; rfl
theorem calls {W : World} {a0 : Int × List ByteArray} {a1 : Int × Int × Int × Int × ByteArray} {a2 : Int × Int × List Int} {cs0 cs1 cs2 : List Value} (K0 : dPen.K W a0 cs0) (K1 : dOp.K W a1 cs1) (K2 : dAns.K W a2 cs2) (g0 : (Lit.int .i64 a0.1).wf = true ∧ (a0.2.length ≤ maxLen ∧ ∀ x ∈ a0.2, x.size ≤ maxLen)) (g1 : a1.2.2.2.2.size ≤ maxLen) (g2 : a2.2.2.length ≤ maxLen) :
    Calls Try.prog 3 #[.agg ⟨cs0⟩, .agg ⟨cs1⟩, .agg ⟨cs2⟩] W fun e W' => e = .returned (.bool true) ∧ Below W.heap.size W W' := by
  obtain ⟨ρ1, s1, es0, L1, A0, E0⟩ := dPen.lay (C := ⟨Try.prog, W⟩) rel0 (fun _ _ => rfl) K0
  obtain ⟨ρ2, s2, es1, L2, A1, E1⟩ := dOp.lay (C := ⟨Try.prog, W⟩) L1.rel L1.top K1
  obtain ⟨ρ3, s3, es2, L3, A2, E2⟩ := dAns.lay (C := ⟨Try.prog, W⟩) L2.rel L2.top K2
  obtain ⟨v0, D0, rfl, T0⟩ := pen_cells (dPen.E_ext (L2.trans L3).ext E0)
  have e1 := op_cells (dOp.E_ext L3.ext E1)
  subst e1
  obtain ⟨v2, D2, rfl, T2⟩ := ans_cells E2
  have hm : maxLen = 2 ^ 63 - 1 := rfl
  refine calls_of (C := ⟨Try.prog, W⟩) (g := laws_FnExactShowEvent.sg) (es := [.agg #[I a0.1, v0], .agg #[I a1.1, I a1.2.1, I a1.2.2.1, I a1.2.2.2.1, .string a1.2.2.2.2], .agg #[I a2.1, I a2.2.1, v2]]) (args := [.agg ⟨cs0⟩, .agg ⟨cs1⟩, .agg ⟨cs2⟩]) (sv := [v0, v2]) (D := D0 ++ D2)
    (vs := [I a0.1, I a1.1, I a1.2.1, I a1.2.2.1, I a1.2.2.2.1, .string a1.2.2.2.2, I a2.1, I a2.2.1]) (cs := [tS a0.2, tI a2.2.2]) L3.rel L3.top
    ⟨⟨_, rfl, All2_mono (fun _ _ => CR_mono (L2.trans L3).sub) A0⟩, ⟨_, rfl, All2_mono (fun _ _ => CR_mono L3.sub) A1⟩, ⟨_, rfl, A2⟩, trivial⟩ ?_ rfl
    (laws_FnExactShowEvent.cl2 (FnExactShowEvent_t (by have := g0.2.1; omega) (fun x hx => by have := g0.2.2 x hx; omega) (by omega) (by omega) rfl))
  refine ⟨_, _, [I a0.1, v0], [I a0.1], _, [tS a0.2], _, [v0], _, [], [], D0, _, rfl, rfl, rfl, rfl, rfl, ?_, ?_, rfl, rfl⟩
  · exact ⟨_, _, _, rfl, rfl, rfl, v0, [], _, [], [], D0, [], [], rfl, rfl, rfl, T0, ⟨rfl, (List.append_nil _).symm⟩, rfl, rfl, rfl, rfl, rfl, rfl⟩
  refine ⟨_, _, [I a1.1, I a1.2.1, I a1.2.2.1, I a1.2.2.2.1, .string a1.2.2.2.2], [I a1.1, I a1.2.1, I a1.2.2.1, I a1.2.2.2.1, .string a1.2.2.2.2], _, [], _, [], _, [], [], [], _, rfl, rfl, rfl, rfl, rfl, ?_, ?_, rfl, rfl⟩
  · exact ⟨_, _, _, rfl, rfl, rfl, _, _, _, rfl, rfl, rfl, _, _, _, rfl, rfl, rfl, _, _, _, rfl, rfl, rfl, _, _, _, rfl, rfl, rfl, rfl, rfl, rfl, rfl, rfl, rfl⟩
  refine ⟨_, _, [I a2.1, I a2.2.1, v2], [I a2.1, I a2.2.1], [], [tI a2.2.2], [], [v2], [], [], [], D2, [], rfl, rfl, rfl, rfl, (List.append_nil _).symm, ?_, ⟨rfl, rfl, rfl, rfl, rfl, rfl⟩, rfl, rfl⟩
  exact ⟨_, _, _, rfl, rfl, rfl, _, _, _, rfl, rfl, rfl, v2, [], _, [], [], D2, [], [], rfl, rfl, rfl, T2, ⟨rfl, (List.append_nil _).symm⟩, rfl, rfl, rfl, rfl, rfl, rfl⟩
set_option maxRecDepth 100000 in
theorem lifted (os : Os) (started : os.Started) (H : Type) (enc : TypeId × Value → H) :
    ReturnsInHanded {} Try.checked os 3 .any (Rows.fnExactShowEventSpec.pre6 enc Try.prog Try.f3 Rows.fnExactShowEventRow.domain false) (Rows.fnExactShowEventSpec.post enc Try.prog Try.f3 false true false false) := by
  refine returnsInHanded_of_change_sized (C := Try.checked) own started (by kernel_rfl) Try.func3
    (ChangeSpec.witness6 (enc := enc) (C := Try.checked) false ⟨#[], #[.agg #[.int .i64 0, .slice none 0 0], .agg #[.int .i64 0, .int .i64 0, .int .i64 0, .int .i64 0, .string ByteArray.empty], .agg #[.int .i64 0, .int .i64 0, .slice none 0 0]], []⟩ 8 (by kernel_rfl) (by kernel_rfl) (by kernel_rfl) (by kernel_rfl)) ?_
  intro W base args ds gs before hval0 hW hcnd hsz0 _
  have hval : ∀ (j : Nat) t v, Try.f3.params[j]? = some t → args[j]? = some v → Value.okWide Try.prog W .any base t v := hval0
  have hW' := hW
  obtain ⟨p, q, hA0, hV, rfl, hfz, hnd⟩ := hW
  have hA : DataW.TrodAll enc Try.prog W 0 (fun _ => true) true Try.f3.params.toList args.toList ds p := hA0
  rw [Try.params3] at hA hval
  obtain ⟨v0, vs0, d0, ds0, p0, q0, hargs, rfl, rfl, h0, r0⟩ := trodAll_cons hA
  obtain ⟨v1, vs1, d1, ds1, p1, q1, rfl, rfl, rfl, h1, r1⟩ := trodAll_cons r0
  obtain ⟨v2, vs2, d2, ds2, p2, q2, rfl, rfl, rfl, h2, r2⟩ := trodAll_cons r1
  obtain ⟨rfl, rfl, rfl⟩ := trodAll_nil r2
  obtain rfl : args = #[v0, v1, v2] := by cases args; simp_all
  obtain ⟨rfl, rfl⟩ := trodVars_none hV
  have k0 := h0
  have lt0 : ∀ x ∈ p0, x.block < W.heap.size := by obtain ⟨m, hm⟩ := k0; exact DataW.trod_lt m _ _ _ hm
  obtain ⟨G0, o0, og0⟩ := opens0 (enc := enc) (w := W) (base := 0) (spare := fun _ => true) (held := true)
  obtain ⟨a0, cs0, rfl, K0, g0⟩ := top_struct Try.underlying24 (hval 0 24 v0 rfl rfl) o0 h0
  replace g0 := og0 _ g0
  have k1 := h1
  have lt1 : ∀ x ∈ p1, x.block < W.heap.size := by obtain ⟨m, hm⟩ := k1; exact DataW.trod_lt m _ _ _ hm
  obtain ⟨G1, o1, og1⟩ := opens1 (enc := enc) (w := W) (base := 0) (spare := fun _ => true) (held := true)
  obtain ⟨a1, cs1, rfl, K1, g1⟩ := top_struct Try.underlying26 (hval 1 26 v1 rfl rfl) o1 h1
  replace g1 := og1 _ g1
  have k2 := h2
  have lt2 : ∀ x ∈ p2, x.block < W.heap.size := by obtain ⟨m, hm⟩ := k2; exact DataW.trod_lt m _ _ _ hm
  obtain ⟨G2, o2, og2⟩ := opens2 (enc := enc) (w := W) (base := 0) (spare := fun _ => true) (held := true)
  obtain ⟨a2, cs2, rfl, K2, g2⟩ := top_struct Try.underlying29 (hval 2 29 v2 rfl rfl) o2 h2
  replace g2 := og2 _ g2
  clear hA0 hval0 hsz0
  refine Calls.mono (calls K0 K1 K2 g0 g1 g2) fun e W' hh => ?_
  obtain ⟨he, bel0⟩ := hh
  have bel : Below W.heap.size W W' := bel0
  subst he
  exact ⟨_, rfl, _, _, _, [], _, [], hW', trodAll_mk1 (shut_bool Try.underlying4 _), (trodAll_cons_mk (Below.trod laidOut (by kernel_rfl) (of_decide_eq_true (by kernel_rfl)) k0 bel lt0) (trodAll_cons_mk (Below.trod laidOut (by kernel_rfl) (of_decide_eq_true (by kernel_rfl)) k1 bel lt1) (trodAll_cons_mk (Below.trod laidOut (by kernel_rfl) (of_decide_eq_true (by kernel_rfl)) k2 bel lt2) trodAll_mk0))), rfl, bel.frame _, fun h => by cases h⟩
theorem over : Rows.fnExactShowEventRow.holds Try.pinned (OpenSpec.ofChange Rows.fnExactShowEventSpec) :=
  OpenClaim.holds_of_wide 3 Try.f3 rfl rfl rfl rfl rfl rfl rfl ⟨rfl, rfl, rfl, rfl, rfl⟩ rfl rfl rfl rfl rfl (by kernel_rfl) Try.func3 (by kernel_rfl)
    (of_decide_eq_true (by kernel_rfl)) (by unfold Func.isWrapper; first | (rw [if_pos (by decide +kernel)]; kernel_rfl) | (rw [if_neg (by decide +kernel)]; exact ⟨rfl, rfl⟩))
    (fun os started H enc _ => lifted os started H enc)
theorem proved : Rows.FnExactShowEventSaid := over
#print axioms proved
end Go.Proofs.Ytmikdglafmfnfaa.fnExactShowEvent
namespace Go.Proofs.Ytmikdglafmfnfaa
/-- The row, under a short name, for the claim. -/
theorem fnExactShowEvent_holds : Rows.FnExactShowEventSaid := fnExactShowEvent.proved
end Go.Proofs.Ytmikdglafmfnfaa
