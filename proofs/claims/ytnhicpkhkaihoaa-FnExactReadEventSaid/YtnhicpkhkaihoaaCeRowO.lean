/- The arguments of the laws on operations and answers, opened as trees. -/
import Derived.Test.YtnhicpkhkaihoaaCeRowT
import Derived.Test.YtnhicpkhkaihoaaCeLawTyAnswer
namespace Go.Proofs.Ytnhicpkhkaihoaa.P
open Go Go.ChangeShapes Go.WideShapes Go.ChangeAt Go.RowKit Go.Proofs.Ytnhicpkhkaihoaa Go.Proofs.Ytnhicpkhkaihoaa.Eng Go.Proofs.Ytnhicpkhkaihoaa.Open
set_option linter.unusedVariables false
/-- What the machine lets an operation be. -/
structure OpF (o : Op5) : Prop where
  k : F64 o.kind
  a : F64 o.a
  b : F64 o.b
  c : F64 o.c
  s : (o.site.size : Int) < 2 ^ 63
structure OpsF (l : List Op5) : Prop where
  len : (l.length : Int) < 2 ^ 63
  all : ∀ o ∈ l, OpF o
structure AnsF (l : List An) : Prop where
  len : (l.length : Int) < 2 ^ 63
  all : ∀ a ∈ l, (a.freed.length : Int) < 2 ^ 63 ∧ F64 a.code ∧ F64 a.val ∧ ∀ x ∈ a.freed, F64 x
/-! ### Pens -/
abbrev dPen := kPair dI dSs
abbrev APen := Int × List ByteArray
def toPen (x : APen) : Int × List ByteArray := x
theorem pen_cells {s : St} {a : APen} {es : List Value} (h : dPen.E s a es) : ∃ v F, es = [I (toPen a).1, v] ∧ TR s false (.l 1 (tS (toPen a).2)) v F := by
  obtain ⟨c, d, rfl, rfl, hd⟩ := h
  obtain ⟨v, F, rfl, t⟩ := sl_E rdt_str hd
  refine ⟨v, F, rfl, ?_⟩
  rw [fm_S] at t; exact t
def goodtoPen (a : APen) : Prop := F64 (toPen a).1 ∧ ((toPen a).2.length : Int) < 2 ^ 63 ∧ ∀ s ∈ (toPen a).2, (s.size : Int) < 2 ^ 63
set_option maxRecDepth 100000 in
theorem opensPen {H : Type} {enc : TypeId × Value → H} {w : World} {base : Nat} {spare : Nat → Bool} {held : Bool} : ∃ G, Opens enc Try.prog w base spare held 53 dPen G ∧ ∀ a, G a → goodtoPen a := by
  refine ⟨_, (opens_struct Try.underlying53 (by kernel_rfl) (opensF_cons rfl rfl (opens_int Try.underlying3 (by kernel_rfl)) (opensF_last rfl rfl (opens_slice Try.underlying25 (by kernel_rfl) (opens_string Try.underlying9 (by kernel_rfl)) (Nat.succ_pos 0))))), fun a h => ?_⟩
  have hm : maxLen = 2 ^ 63 - 1 := rfl
  obtain ⟨h0, h1, h2⟩ := h
  exact ⟨f64_of h0, by simp only [toPen]; omega, fun s hs => by have := h2 s hs; omega⟩
end Go.Proofs.Ytnhicpkhkaihoaa.P
