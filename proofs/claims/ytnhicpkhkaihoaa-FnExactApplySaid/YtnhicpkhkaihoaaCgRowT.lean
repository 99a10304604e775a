/- A part of the proof. -/
import Derived.Test.YtnhicpkhkaihoaaRows
import Derived.Test.YtnhicpkhkaihoaaCgLawHp
import Derived.WalkKit
import Derived.ProofKit
import Derived.OpenShut
import Derived.ShutString
import Derived.ChangeOld
import Derived.SizedLaws
/- The arguments of the exact laws, opened as trees. -/
namespace Go.Proofs.Ytnhicpkhkaihoaa.P
open Go Go.ChangeShapes Go.WideShapes Go.ChangeAt Go.RowKit Go.Proofs.Ytnhicpkhkaihoaa Go.Proofs.Ytnhicpkhkaihoaa.Eng Go.Proofs.Ytnhicpkhkaihoaa.Open
set_option linter.unusedVariables false
theorem f64_of {z : Int} (h : (Lit.int .i64 z).wf = true) : F64 z := by
  simp [Lit.wf, IntKind.min, IntKind.max, IntKind.signed, IntKind.bits] at h
  exact ⟨by omega, by omega⟩
abbrev dI := kInt .i64
abbrev dIs := kSl dI (Nat.succ_pos 0)
abbrev dSs := kSl kStr (Nat.succ_pos 0)
theorem fm {α β : Type} (f : α → β) : ∀ l : List α, (l.flatMap fun x => [f x]) = l.map f
  | [] => rfl
  | a :: l => by rw [List.flatMap_cons, fm f l]; rfl
theorem fm_I (l : List Int) : (l.flatMap fun n => [T.c (.int .i64 n)]) = tI l := fm (fun n => T.c (.int .i64 n)) l
theorem fm_S (l : List ByteArray) : (l.flatMap fun n => [T.c (.string n)]) = tS l := fm (fun n => T.c (.string n)) l
theorem flat_conv {α β : Type} {t : α → List T} {f : β → List T} {g : α → β} (h : ∀ x, t x = f (g x)) (l : List α) : l.flatMap t = tR f (l.map g) := by
  rw [tR, List.flatMap_map]
  have : t = fun x => f (g x) := funext h
  rw [this]
theorem sl_E {α : Type} {d : Kind α} {t : α → List T} {hsz : 0 < d.sz} (hd : Rdt d t) {s : St} {xs : List α} {cs : List Value} (h : (kSl d hsz).E s xs cs) : ∃ v F, cs = [v] ∧ TR s false (.l d.sz (xs.flatMap t)) v F := by
  obtain ⟨F, hF⟩ := (rdt_sl (hsz := hsz) hd).2 s _ _ h
  obtain ⟨v, rfl, hv⟩ := TRs_one.1 hF
  exact ⟨v, F, rfl, hv⟩
/-! ### Arguments -/
theorem cells_0 {s : St} : CellsR s [] [] [] [] [] [] [] := ⟨rfl, rfl, rfl, rfl, rfl, rfl⟩
theorem cells_v {s : St} {k : List CS} {u : Value} {us vs sv : List Value} {cs : List (List T)} {D : List Nat} (hu : plain u = true) (h : CellsR s k us vs cs sv [] D) : CellsR s (.v :: k) (u :: us) (u :: vs) cs sv [] D := ⟨u, us, vs, rfl, rfl, hu, h⟩
theorem cells_t {s : St} {k : List CS} {e : Nat} {u : Value} {c : List T} {us vs sv : List Value} {cs : List (List T)} {F D : List Nat} (ht : TR s false (.l e c) u F) (h : CellsR s k us vs cs sv [] D) : CellsR s (.t e 0 :: k) (u :: us) vs (c :: cs) (u :: sv) [] (F ++ D) :=
  ⟨u, us, c, cs, sv, F, [], D, rfl, rfl, rfl, ht, ⟨rfl, rfl⟩, h⟩
theorem par_n {s : St} : ParR s [] [] [] [] [] [] [] := ⟨rfl, rfl, rfl, rfl, rfl, rfl⟩
theorem par_g {s : St} {k : List CS} {r : List (Nat × List CS)} {us ar v1 v2 s1 s2 : List Value} {c1 c2 : List (List T)} {D1 D2 : List Nat} (hc : CellsR s k us v1 c1 s1 [] D1) (hr : ParR s r ar v2 c2 s2 [] D2) : ParR s ((1, k) :: r) (.agg us.toArray :: ar) (v1 ++ v2) (c1 ++ c2) (s1 ++ s2) [] (D1 ++ D2) :=
  ⟨_, ar, us, v1, v2, c1, c2, s1, s2, [], [], D1, D2, rfl, rfl, rfl, rfl, rfl, hc, hr, rfl, rfl⟩
/-! ### Heaps -/
abbrev dObj := kPair kBool (kPair dI (kPair dI (kPair dI (kPair dI (kPair dI (kPair dIs kBool))))))
abbrev dObjs := kSl dObj (Nat.succ_pos 7)
abbrev dWk := kPair kBool dI
abbrev dWks := kSl dWk (Nat.succ_pos 1)
abbrev dHeap := kPair dObjs (kPair dWks (kPair dIs dSs))
abbrev AObj := Bool × Int × Int × Int × Int × Int × List Int × Bool
abbrev AWk := Bool × Int
abbrev AHeap := List AObj × List AWk × List Int × List ByteArray
def toObj (x : AObj) : HObj := ⟨x.1, x.2.1, x.2.2.1, x.2.2.2.1, x.2.2.2.2.1, x.2.2.2.2.2.1, x.2.2.2.2.2.2.1, x.2.2.2.2.2.2.2⟩
def toWk (x : AWk) : Wk := ⟨x.1, x.2⟩
def toHp (x : AHeap) : Hp := ⟨x.1.map toObj, x.2.1.map toWk, x.2.2.1, x.2.2.2⟩
theorem rdt_obj : Rdt dObj fun x => tO (toObj x) := by
  have h := rdt_pair rdt_bool (rdt_pair rdt_int (rdt_pair rdt_int (rdt_pair rdt_int (rdt_pair rdt_int (rdt_pair rdt_int (rdt_pair (rdt_sl (hsz := Nat.succ_pos 0) rdt_int) rdt_bool))))))
  refine ⟨fun x => rfl, fun s x cs hx => ?_⟩
  have := h.2 s x cs hx
  simp only [fm_I] at this; exact this
theorem rdt_wk : Rdt dWk fun x => tW (toWk x) := rdt_pair rdt_bool rdt_int
theorem heap_cells {s : St} {a : AHeap} {es : List Value} (h : dHeap.E s a es) : ∃ v0 v1 v2 v3 F0 F1 F2 F3, es = [v0, v1, v2, v3] ∧ TR s false (.l 8 (tR tO (toHp a).objs)) v0 F0 ∧ TR s false (.l 2 (tR tW (toHp a).weaks)) v1 F1 ∧ TR s false (.l 1 (tI (toHp a).buffer)) v2 F2 ∧ TR s false (.l 1 (tS (toHp a).sites)) v3 F3 := by
  obtain ⟨c0, d0, rfl, h0, c1, d1, rfl, h1, c2, d2, rfl, h2, h3⟩ := h
  obtain ⟨v0, F0, rfl, t0⟩ := sl_E rdt_obj h0
  obtain ⟨v1, F1, rfl, t1⟩ := sl_E rdt_wk h1
  obtain ⟨v2, F2, rfl, t2⟩ := sl_E rdt_int h2
  obtain ⟨v3, F3, rfl, t3⟩ := sl_E rdt_str h3
  refine ⟨v0, v1, v2, v3, F0, F1, F2, F3, rfl, ?_, ?_, ?_, ?_⟩
  · rw [flat_conv (f := tO) (g := toObj) fun x => rfl] at t0; exact t0
  · rw [flat_conv (f := tW) (g := toWk) fun x => rfl] at t1; exact t1
  · rw [fm_I] at t2; exact t2
  · rw [fm_S] at t3; exact t3
def goodtoHp (a : AHeap) : Prop := Raw (toHp a) ∧ Nums (toHp a)
set_option maxRecDepth 100000 in
theorem opensHeap {H : Type} {enc : TypeId × Value → H} {w : World} {base : Nat} {spare : Nat → Bool} {held : Bool} : ∃ G, Opens enc Try.prog w base spare held 27 dHeap G ∧ ∀ a, G a → goodtoHp a := by
  refine ⟨_, (opens_struct Try.underlying27 (by kernel_rfl)
    (opensF_cons rfl rfl (opens_slice Try.underlying22 (by kernel_rfl) (opens_struct Try.underlying175 (by kernel_rfl) (opensF_cons rfl rfl (opens_bool Try.underlying4 (by kernel_rfl)) (opensF_cons rfl rfl (opens_int Try.underlying3 (by kernel_rfl)) (opensF_cons rfl rfl (opens_int Try.underlying3 (by kernel_rfl)) (opensF_cons rfl rfl (opens_int Try.underlying3 (by kernel_rfl)) (opensF_cons rfl rfl (opens_int Try.underlying3 (by kernel_rfl)) (opensF_cons rfl rfl (opens_int Try.underlying3 (by kernel_rfl)) (opensF_cons rfl rfl (opens_slice Try.underlying24 (by kernel_rfl) (opens_int Try.underlying3 (by kernel_rfl)) (Nat.succ_pos 0)) (opensF_last rfl rfl (opens_bool Try.underlying4 (by kernel_rfl)))))))))) ) (Nat.succ_pos 7))
    (opensF_cons rfl rfl (opens_slice Try.underlying23 (by kernel_rfl) (opens_struct Try.underlying179 (by kernel_rfl) (opensF_cons rfl rfl (opens_bool Try.underlying4 (by kernel_rfl)) (opensF_last rfl rfl (opens_int Try.underlying3 (by kernel_rfl))))) (Nat.succ_pos 1))
    (opensF_cons rfl rfl (opens_slice Try.underlying24 (by kernel_rfl) (opens_int Try.underlying3 (by kernel_rfl)) (Nat.succ_pos 0))
    (opensF_last rfl rfl (opens_slice Try.underlying25 (by kernel_rfl) (opens_string Try.underlying9 (by kernel_rfl)) (Nat.succ_pos 0))))))), fun a h => ?_⟩
  obtain ⟨⟨h0, h1⟩, ⟨g0, g1⟩, ⟨b0, b1⟩, s0, s1⟩ := h
  have hm : maxLen = 2 ^ 63 - 1 := rfl
  refine ⟨⟨?_, ?_, ?_, ?_, ?_, ?_⟩, ?_, ?_, ?_⟩
  · simp only [toHp, List.length_map]; omega
  · intro o ho
    obtain ⟨x, hx, rfl⟩ := List.mem_map.1 ho
    obtain ⟨_, _, _, _, _, _, ⟨hf, _⟩, _⟩ := h1 x hx
    simp only [toObj]; omega
  · simp only [toHp, List.length_map]; omega
  · simp only [toHp]; omega
  · simp only [toHp]; omega
  · intro x hx; have := s1 x hx; omega
  · intro o ho
    obtain ⟨x, hx, rfl⟩ := List.mem_map.1 ho
    obtain ⟨_, i1, i2, i3, i4, i5, ⟨_, i6⟩, _⟩ := h1 x hx
    exact ⟨f64_of i1, f64_of i2, f64_of i3, f64_of i4, f64_of i5, fun f hf => f64_of (i6 f hf)⟩
  · intro o ho
    obtain ⟨x, hx, rfl⟩ := List.mem_map.1 ho
    exact f64_of (g1 x hx).2
  · exact fun b hb => f64_of (b1 b hb)
end Go.Proofs.Ytnhicpkhkaihoaa.P
