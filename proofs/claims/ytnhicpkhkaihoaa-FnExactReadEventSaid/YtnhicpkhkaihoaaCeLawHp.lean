/- What the laws' small functions make of heaps. -/
import Derived.Test.YtnhicpkhkaihoaaCeLawTyWeak
namespace Go.Proofs.Ytnhicpkhkaihoaa.P
open Go Go.Proofs.Ytnhicpkhkaihoaa Go.Proofs.Ytnhicpkhkaihoaa.Eng
set_option maxHeartbeats 4000000
set_option linter.unusedVariables false
set_option linter.unusedSimpArgs false
attribute [local irreducible] prP gP gE gF cndP ixW ldc ldg ldl stc stg scW mkW apW loopP cl2 joinP pre2
variable {w0 : World}
/-- What the machine lets a heap be. -/
structure Raw (h : Hp) : Prop where
  ol : (h.objs.length : Int) < 2 ^ 63
  of : ∀ o ∈ h.objs, (o.field.length : Int) < 2 ^ 63
  wl : (h.weaks.length : Int) < 2 ^ 63
  bl : (h.buffer.length : Int) < 2 ^ 63
  sl : (h.sites.length : Int) < 2 ^ 63
  ss : ∀ s ∈ h.sites, (s.size : Int) < 2 ^ 63
/-- What the laws look at. -/
structure Fits (h : Hp) : Prop where
  ol : (h.objs.length : Int) ≤ 1048576
  of : ∀ o ∈ h.objs, (o.field.length : Int) ≤ 1048576
  wl : (h.weaks.length : Int) ≤ 1048576
  bl : (h.buffer.length : Int) ≤ 1048576
  sl : (h.sites.length : Int) ≤ 1048576
  ss : ∀ s ∈ h.sites, (s.size : Int) ≤ 1048576
def szHp (h : Hp) : Int := szL szHObj h.objs + szL szWk h.weaks + h.buffer.length + h.sites.length
theorem szL_le {α : Type} {sz : α → Int} {b : Int} : ∀ {l : List α}, (∀ x ∈ l, sz x ≤ b) → szL sz l ≤ l.length * b
  | [], _ => by simp [szL]
  | x :: l, h => by
    have h1 := h x (by simp)
    have h2 := szL_le (l := l) fun y hy => h y (by simp [hy])
    simp only [szL, List.length_cons]
    have : ((l.length + 1 : Nat) : Int) * b = l.length * b + b := by
      rw [Int.natCast_add, Int.add_mul]; simp
    omega
theorem Fits.objs {h : Hp} (hf : Fits h) : 0 ≤ szL szHObj h.objs ∧ szL szHObj h.objs ≤ 2 ^ 41 := by
  refine ⟨szL_pos szHObj_pos _, ?_⟩
  have h1 := szL_le (sz := szHObj) (b := 1048583) (l := h.objs) fun o ho => by have := hf.of o ho; unfold szHObj; omega
  have h2 := hf.ol
  have h3 : (h.objs.length : Int) * 1048583 ≤ 1048576 * 1048583 := Int.mul_le_mul_of_nonneg_right h2 (by omega)
  omega
theorem Fits.weaks {h : Hp} (hf : Fits h) : 0 ≤ szL szWk h.weaks ∧ szL szWk h.weaks ≤ 2 ^ 41 := by
  refine ⟨szL_pos szWk_pos _, ?_⟩
  have h1 := szL_le (sz := szWk) (b := 2) (l := h.weaks) fun o ho => by unfold szWk; omega
  have h2 := hf.wl
  omega
theorem Fits.sz {h : Hp} (hf : Fits h) : 0 ≤ szHp h ∧ szHp h ≤ 2 ^ 43 := by
  have h1 := hf.objs; have h2 := hf.weaks; have h3 := hf.bl; have h4 := hf.sl
  unfold szHp; omega
/-- What the machine's numbers are. -/
structure Nums (h : Hp) : Prop where
  obj : ∀ o ∈ h.objs, F64 o.gen ∧ F64 o.site ∧ F64 o.holds ∧ F64 o.roots ∧ F64 o.count ∧ ∀ f ∈ o.field, F64 f
  weak : ∀ w ∈ h.weaks, F64 w.target
  buf : ∀ b ∈ h.buffer, F64 b
end Go.Proofs.Ytnhicpkhkaihoaa.P
