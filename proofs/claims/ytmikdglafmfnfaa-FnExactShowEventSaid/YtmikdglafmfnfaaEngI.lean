/- The engine's truth, ninth part: operations in a row. -/
import Derived.Test.YtmikdglafmfnfaaEngH
namespace Go.Proofs.Ytmikdglafmfnfaa.Eng
open Go Go.RowKit
set_option linter.unusedVariables false
set_option linter.unusedSimpArgs false
/-! ### What comes next is right -/
structure Start where
  nt : Nat
  top : Nat
  ρ : Rho
  s : St
  W : World
structure Here (C : Ctx) (B : Start) (ρ : Rho) (s : St) (W : World) (env : Env) (a : Act) : Prop where
  rel : Rel C ρ s W
  vre : VRE ρ env a
  size : a.tmps.size = B.nt
  defers : a.defers = []
  way : Way B.ρ B.s B.W ρ s W
  free : Free ρ s.n B.top
def KS (C : Ctx) (B : Start) (Z : Act → World → Prop) (k : Env → Q) : Prop :=
  (∀ env s, k env s → s.n ≤ B.top) ∧ ∀ env s ρ W a, k env s → Here C B ρ s W env a → Z a W
theorem put_size (a : Act) (d : Option Tmp) (v : Value) : (a.put d v).tmps.size = a.tmps.size := by cases d <;> simp [Act.put]
theorem put_defers' (a : Act) (d : Option Tmp) (v : Value) : (a.put d v).defers = a.defers := by cases d <;> rfl
section
variable {C : Ctx} {B : Start}
theorem Way.free {ρ ρ' : Rho} {s s' : St} {W W' : World} {top : Nat} (hw : Way ρ s W ρ' s' W') (h : Free ρ s.n top) : Free ρ' s'.n top := fun x h1 h2 => by
  have := hw.n
  rw [hw.agree x (.inr h1)]; exact h x (by omega) h2
theorem Here.step {ρ ρ' : Rho} {s s' : St} {W W' : World} {env : Env} {a : Act} {d : Option Tmp} {v u : Value} (h : Here C B ρ s W env a) (hR : Rel C ρ' s' W') (hw : Way ρ s W ρ' s' W') (hv : VR ρ' v u) (hd : ∀ t, d = some t → t < B.nt) :
    Here C B ρ' s' W' (putE d v env) (a.put d u) :=
  ⟨hR, VRE_put (VRE_mono hw.sub h.vre) hv fun t ht => by rw [h.size]; exact hd t ht, by rw [put_size, h.size], by rw [put_defers', h.defers], h.way.trans hw, hw.free h.free⟩
theorem opsFit_get {nt : Nat} {ops : Array Oper} (h : opsFit nt ops = true) {i : Nat} {o : Oper} (ho : ops[i]? = some o) : ∀ t, o.dst = some t → t < nt := by
  intro t ht
  have := Array.all_eq_true_iff_forall_mem.1 h o (Array.mem_of_getElem? ho)
  simp only [ht] at this
  exact Nat.le_of_ble_eq_true this
theorem runOps_sound {ops : Array Oper} {Q : Exit → Act → World → Prop} {K : Env → Eng.Q} (hfit : opsFit B.nt ops = true) (hk : KS C B (Q .normal) K) :
    ∀ (l : List Oper) (k : Nat), ops.toList.drop k = l → ∀ env s ρ W a, runOps C ops l env K s → Here C B ρ s W env a → wpOps C.P ops Q (List.range' k l.length) a W
  | [], k, _, env, s, ρ, W, a, h, hh => hk.2 env s ρ W a h hh
  | o :: r, k, hdrop, env, s, ρ, W, a, h, hh => by
    have hget : ops[k]? = some o := by
      have : (ops.toList.drop k)[0]? = some o := by rw [hdrop]; rfl
      simpa using this
    have hdrop' : ops.toList.drop (k + 1) = r := by
      have : (ops.toList.drop k).drop 1 = r := by rw [hdrop]; rfl
      rwa [List.drop_drop] at this
    have hd := opsFit_get hfit hget
    simp only [runOps] at h
    simp only [List.length_cons, List.range'_succ, wpOps, hget]
    rcases gdd_cases hh.vre h with ⟨hw, h⟩ | ⟨hw, h⟩
    · simp only [hw, if_true]
      unfold oneOp at h
      cases hop : opOf C.P env o with
      | none => rw [hop] at h; exact h.elim
      | some st =>
        rw [hop] at h
        obtain ⟨v, s', hg, h⟩ := stpQ_iff.1 h
        have htop : s'.n ≤ B.top := by
          obtain ⟨env', s2, hn, h2, _⟩ := lin_runOps r _ K s' h
          exact Nat.le_trans hn (hk.1 _ _ h2)
        exact .inl <| stp_sound hh.rel hh.vre hop hg (fun x h1 h2 => hh.free x h1 (Nat.lt_of_lt_of_le h2 htop)) (fun ρ' W' u hR hw hv => runOps_sound hfit hk r (k + 1) hdrop' _ _ _ _ _ h (hh.step hR hw hv hd))
    · simp only [hw, Bool.false_eq_true, if_false]
      exact runOps_sound hfit hk r (k + 1) hdrop' _ _ _ _ _ h (hh.step hh.rel Way.refl VR_undef hd)
end
end Go.Proofs.Ytmikdglafmfnfaa.Eng
