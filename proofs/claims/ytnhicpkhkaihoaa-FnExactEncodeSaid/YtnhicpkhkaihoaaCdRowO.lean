/- The arguments of the laws on operations and answers, opened as trees. -/
import Derived.Test.YtnhicpkhkaihoaaCdRowT
import Derived.Test.YtnhicpkhkaihoaaCdLawTyAnswer
namespace Go.Proofs.Ytnhicpkhkaihoaa.P
open Go Go.ChangeShapes Go.WideShapes Go.ChangeAt Go.RowKit Go.Proofs.Ytnhicpkhkaihoaa Go.Proofs.Ytnhicpkhkaihoaa.Eng Go.Proofs.Ytnhicpkhkaihoaa.Open
set_option linter.unusedVariables false
abbrev dOp := kPair dI (kPair dI (kPair dI (kPair dI kStr)))
abbrev dOps := kSl dOp (Nat.succ_pos 4)
abbrev AOp := Int × Int × Int × Int × ByteArray
def toOp (x : AOp) : Op5 := ⟨x.1, x.2.1, x.2.2.1, x.2.2.2.1, x.2.2.2.2⟩
def toOps (l : List AOp) : List Op5 := l.map toOp
abbrev dAn := kPair dI (kPair dI dIs)
abbrev dAns := kSl dAn (Nat.succ_pos 2)
abbrev AAn := Int × Int × List Int
def toAn (x : AAn) : An := ⟨x.1, x.2.1, x.2.2⟩
def toAns (l : List AAn) : List An := l.map toAn
theorem rdt_op : Rdt dOp fun x => tP (toOp x) := rdt_pair rdt_int (rdt_pair rdt_int (rdt_pair rdt_int (rdt_pair rdt_int rdt_str)))
theorem rdt_an : Rdt dAn fun x => tA (toAn x) := by
  have h := rdt_pair rdt_int (rdt_pair rdt_int (rdt_sl (hsz := Nat.succ_pos 0) rdt_int))
  refine ⟨fun x => rfl, fun s x cs hx => ?_⟩
  have := h.2 s x cs hx
  simp only [fm_I] at this; exact this
theorem ops_cells {s : St} {a : List AOp} {es : List Value} (h : dOps.E s a es) : ∃ v F, es = [v] ∧ TR s false (.l 5 (tR tP (toOps a))) v F := by
  obtain ⟨v, F, rfl, t⟩ := sl_E rdt_op h
  refine ⟨v, F, rfl, ?_⟩
  rw [flat_conv (f := tP) (g := toOp) fun x => rfl] at t; exact t
theorem ans_cells {s : St} {a : List AAn} {es : List Value} (h : dAns.E s a es) : ∃ v F, es = [v] ∧ TR s false (.l 3 (tR tA (toAns a))) v F := by
  obtain ⟨v, F, rfl, t⟩ := sl_E rdt_an h
  refine ⟨v, F, rfl, ?_⟩
  rw [flat_conv (f := tA) (g := toAn) fun x => rfl] at t; exact t
/-- What the machine lets an operation be. -/
structure OpF (o : Op5) : Prop where
  k : F64 o.kind
  a : F64 o.a
  b : F64 o.b
  c : F64 o.c
  s : (o.site.size : Int) < 2 ^ 63
structure OpsF (l : List Op5) : Prop where
  len : (l.length : Int) < 2 ^ 63
  all : ∀ o ∈ l, OpF o
structure AnsF (l : List An) : Prop where
  len : (l.length : Int) < 2 ^ 63
  all : ∀ a ∈ l, (a.freed.length : Int) < 2 ^ 63 ∧ F64 a.code ∧ F64 a.val ∧ ∀ x ∈ a.freed, F64 x
def goodtoOps (a : List AOp) : Prop := OpsF (toOps a)
def goodtoAns (a : List AAn) : Prop := AnsF (toAns a)
theorem opf_of {x : AOp} (h : (Lit.int .i64 x.1).wf = true ∧ (Lit.int .i64 x.2.1).wf = true ∧ (Lit.int .i64 x.2.2.1).wf = true ∧ (Lit.int .i64 x.2.2.2.1).wf = true ∧ x.2.2.2.2.size ≤ maxLen) : OpF (toOp x) := by
  have hm : maxLen = 2 ^ 63 - 1 := rfl
  obtain ⟨h1, h2, h3, h4, h5⟩ := h
  exact ⟨f64_of h1, f64_of h2, f64_of h3, f64_of h4, by simp only [toOp]; omega⟩
set_option maxRecDepth 100000 in
theorem opensOps {H : Type} {enc : TypeId × Value → H} {w : World} {base : Nat} {spare : Nat → Bool} {held : Bool} : ∃ G, Opens enc Try.prog w base spare held 40 dOps G ∧ ∀ a, G a → goodtoOps a := by
  refine ⟨_, opens_slice Try.underlying40 (by kernel_rfl) (opens_struct Try.underlying86 (by kernel_rfl) (opensF_cons rfl rfl (opens_int Try.underlying3 (by kernel_rfl)) (opensF_cons rfl rfl (opens_int Try.underlying3 (by kernel_rfl)) (opensF_cons rfl rfl (opens_int Try.underlying3 (by kernel_rfl)) (opensF_cons rfl rfl (opens_int Try.underlying3 (by kernel_rfl)) (opensF_last rfl rfl (opens_string Try.underlying9 (by kernel_rfl)))))))) (Nat.succ_pos 4), fun a h => ?_⟩
  have hm : maxLen = 2 ^ 63 - 1 := rfl
  obtain ⟨h0, h1⟩ := h
  refine ⟨by simp only [toOps, List.length_map]; omega, fun o ho => ?_⟩
  obtain ⟨x, hx, rfl⟩ := List.mem_map.1 ho
  exact opf_of (h1 x hx)
set_option maxRecDepth 100000 in
theorem opensAns {H : Type} {enc : TypeId × Value → H} {w : World} {base : Nat} {spare : Nat → Bool} {held : Bool} : ∃ G, Opens enc Try.prog w base spare held 41 dAns G ∧ ∀ a, G a → goodtoAns a := by
  refine ⟨_, opens_slice Try.underlying41 (by kernel_rfl) (opens_struct Try.underlying120 (by kernel_rfl) (opensF_cons rfl rfl (opens_int Try.underlying3 (by kernel_rfl)) (opensF_cons rfl rfl (opens_int Try.underlying3 (by kernel_rfl)) (opensF_last rfl rfl (opens_slice Try.underlying24 (by kernel_rfl) (opens_int Try.underlying3 (by kernel_rfl)) (Nat.succ_pos 0)))))) (Nat.succ_pos 2), fun a h => ?_⟩
  have hm : maxLen = 2 ^ 63 - 1 := rfl
  obtain ⟨h0, h1⟩ := h
  refine ⟨by simp only [toAns, List.length_map]; omega, fun o ho => ?_⟩
  obtain ⟨x, hx, rfl⟩ := List.mem_map.1 ho
  obtain ⟨i1, i2, i3, i4⟩ := h1 x hx
  exact ⟨by simp only [toAn]; omega, f64_of i1, f64_of i2, fun y hy => f64_of (i4 y hy)⟩
end Go.Proofs.Ytnhicpkhkaihoaa.P
