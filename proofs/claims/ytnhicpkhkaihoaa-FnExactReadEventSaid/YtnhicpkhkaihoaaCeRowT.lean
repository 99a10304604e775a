/- The arguments of the exact laws, opened as trees. -/
import Derived.Test.YtnhicpkhkaihoaaRows
import Derived.Test.YtnhicpkhkaihoaaCeLawHp
import Derived.WalkKit
import Derived.ProofKit
import Derived.OpenShut
import Derived.ShutString
import Derived.ChangeOld
import Derived.SizedLaws
namespace Go.Proofs.Ytnhicpkhkaihoaa.P
open Go Go.ChangeShapes Go.WideShapes Go.ChangeAt Go.RowKit Go.Proofs.Ytnhicpkhkaihoaa Go.Proofs.Ytnhicpkhkaihoaa.Eng Go.Proofs.Ytnhicpkhkaihoaa.Open
set_option linter.unusedVariables false
theorem f64_of {z : Int} (h : (Lit.int .i64 z).wf = true) : F64 z := by
  simp [Lit.wf, IntKind.min, IntKind.max, IntKind.signed, IntKind.bits] at h
  exact ⟨by omega, by omega⟩
abbrev dI := kInt .i64
abbrev dSs := kSl kStr (Nat.succ_pos 0)
theorem fm {α β : Type} (f : α → β) : ∀ l : List α, (l.flatMap fun x => [f x]) = l.map f
  | [] => rfl
  | a :: l => by rw [List.flatMap_cons, fm f l]; rfl
theorem fm_S (l : List ByteArray) : (l.flatMap fun n => [T.c (.string n)]) = tS l := fm (fun n => T.c (.string n)) l
theorem sl_E {α : Type} {d : Kind α} {t : α → List T} {hsz : 0 < d.sz} (hd : Rdt d t) {s : St} {xs : List α} {cs : List Value} (h : (kSl d hsz).E s xs cs) : ∃ v F, cs = [v] ∧ TR s false (.l d.sz (xs.flatMap t)) v F := by
  obtain ⟨F, hF⟩ := (rdt_sl (hsz := hsz) hd).2 s _ _ h
  obtain ⟨v, rfl, hv⟩ := TRs_one.1 hF
  exact ⟨v, F, rfl, hv⟩
/-! ### Arguments -/
theorem cells_0 {s : St} : CellsR s [] [] [] [] [] [] [] := ⟨rfl, rfl, rfl, rfl, rfl, rfl⟩
theorem cells_v {s : St} {k : List CS} {u : Value} {us vs sv : List Value} {cs : List (List T)} {D : List Nat} (hu : plain u = true) (h : CellsR s k us vs cs sv [] D) : CellsR s (.v :: k) (u :: us) (u :: vs) cs sv [] D := ⟨u, us, vs, rfl, rfl, hu, h⟩
theorem cells_t {s : St} {k : List CS} {e : Nat} {u : Value} {c : List T} {us vs sv : List Value} {cs : List (List T)} {F D : List Nat} (ht : TR s false (.l e c) u F) (h : CellsR s k us vs cs sv [] D) : CellsR s (.t e 0 :: k) (u :: us) vs (c :: cs) (u :: sv) [] (F ++ D) :=
  ⟨u, us, c, cs, sv, F, [], D, rfl, rfl, rfl, ht, ⟨rfl, rfl⟩, h⟩
theorem par_n {s : St} : ParR s [] [] [] [] [] [] [] := ⟨rfl, rfl, rfl, rfl, rfl, rfl⟩
theorem par_g {s : St} {k : List CS} {r : List (Nat × List CS)} {us ar v1 v2 s1 s2 : List Value} {c1 c2 : List (List T)} {D1 D2 : List Nat} (hc : CellsR s k us v1 c1 s1 [] D1) (hr : ParR s r ar v2 c2 s2 [] D2) : ParR s ((1, k) :: r) (.agg us.toArray :: ar) (v1 ++ v2) (c1 ++ c2) (s1 ++ s2) [] (D1 ++ D2) :=
  ⟨_, ar, us, v1, v2, c1, c2, s1, s2, [], [], D1, D2, rfl, rfl, rfl, rfl, rfl, hc, hr, rfl, rfl⟩
theorem par_o {s : St} {k : List CS} {r : List (Nat × List CS)} {u : Value} {ar v1 v2 s1 s2 : List Value} {c1 c2 : List (List T)} {D1 D2 : List Nat} (hc : CellsR s k [u] v1 c1 s1 [] D1) (hr : ParR s r ar v2 c2 s2 [] D2) : ParR s ((0, k) :: r) (u :: ar) (v1 ++ v2) (c1 ++ c2) (s1 ++ s2) [] (D1 ++ D2) :=
  ⟨_, ar, [u], v1, v2, c1, c2, s1, s2, [], [], D1, D2, rfl, rfl, rfl, rfl, rfl, hc, hr, rfl, rfl⟩
end Go.Proofs.Ytnhicpkhkaihoaa.P
