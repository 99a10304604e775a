/- A part of the proof. -/
import Derived.Test.YtnhicpkhkaihoaaCgRowT
import Derived.Test.YtnhicpkhkaihoaaCgLawTyAnswer
/- The arguments of the laws on operations and answers, opened as trees. -/
namespace Go.Proofs.Ytnhicpkhkaihoaa.P
open Go Go.ChangeShapes Go.WideShapes Go.ChangeAt Go.RowKit Go.Proofs.Ytnhicpkhkaihoaa Go.Proofs.Ytnhicpkhkaihoaa.Eng Go.Proofs.Ytnhicpkhkaihoaa.Open
set_option linter.unusedVariables false
abbrev dOp := kPair dI (kPair dI (kPair dI (kPair dI kStr)))
abbrev AOp := Int × Int × Int × Int × ByteArray
def toOp (x : AOp) : Op5 := ⟨x.1, x.2.1, x.2.2.1, x.2.2.2.1, x.2.2.2.2⟩
theorem op_cells {s : St} {a : AOp} {es : List Value} (h : dOp.E s a es) : es = [I (toOp a).kind, I (toOp a).a, I (toOp a).b, I (toOp a).c, .string (toOp a).site] := by
  obtain ⟨c, d, rfl, rfl, c2, d2, rfl, rfl, c3, d3, rfl, rfl, c4, d4, rfl, rfl, hd⟩ := h
  subst hd; rfl
/-- What the machine lets an operation be. -/
structure OpF (o : Op5) : Prop where
  k : F64 o.kind
  a : F64 o.a
  b : F64 o.b
  c : F64 o.c
  s : (o.site.size : Int) < 2 ^ 63
structure OpsF (l : List Op5) : Prop where
  len : (l.length : Int) < 2 ^ 63
  all : ∀ o ∈ l, OpF o
structure AnsF (l : List An) : Prop where
  len : (l.length : Int) < 2 ^ 63
  all : ∀ a ∈ l, (a.freed.length : Int) < 2 ^ 63 ∧ F64 a.code ∧ F64 a.val ∧ ∀ x ∈ a.freed, F64 x
def goodtoOp (a : AOp) : Prop := OpF (toOp a)
theorem opf_of {x : AOp} (h : (Lit.int .i64 x.1).wf = true ∧ (Lit.int .i64 x.2.1).wf = true ∧ (Lit.int .i64 x.2.2.1).wf = true ∧ (Lit.int .i64 x.2.2.2.1).wf = true ∧ x.2.2.2.2.size ≤ maxLen) : OpF (toOp x) := by
  have hm : maxLen = 2 ^ 63 - 1 := rfl
  obtain ⟨h1, h2, h3, h4, h5⟩ := h
  exact ⟨f64_of h1, f64_of h2, f64_of h3, f64_of h4, by simp only [toOp]; omega⟩
set_option maxRecDepth 100000 in
theorem opensOp {H : Type} {enc : TypeId × Value → H} {w : World} {base : Nat} {spare : Nat → Bool} {held : Bool} : ∃ G, Opens enc Try.prog w base spare held 86 dOp G ∧ ∀ a, G a → goodtoOp a :=
  ⟨_, (opens_struct Try.underlying86 (by kernel_rfl) (opensF_cons rfl rfl (opens_int Try.underlying3 (by kernel_rfl)) (opensF_cons rfl rfl (opens_int Try.underlying3 (by kernel_rfl)) (opensF_cons rfl rfl (opens_int Try.underlying3 (by kernel_rfl)) (opensF_cons rfl rfl (opens_int Try.underlying3 (by kernel_rfl)) (opensF_last rfl rfl (opens_string Try.underlying9 (by kernel_rfl)))))))), fun a h => opf_of h⟩
end Go.Proofs.Ytnhicpkhkaihoaa.P
