/- Encode. -/
import Derived.Test.YtnhicpkhkaihoaaCeWireA
namespace Go.Proofs.Ytnhicpkhkaihoaa.P
open Go Go.Proofs.Ytnhicpkhkaihoaa Go.Proofs.Ytnhicpkhkaihoaa.Eng
set_option maxHeartbeats 4000000
set_option linter.unusedVariables false
set_option linter.unusedSimpArgs false
attribute [local irreducible] prP gP gE gF cndP ixW ldc ldg ldl stc stg scW mkW apW loopP cl2 joinP pre2
variable {w0 : World}
def show1 (n : Int) (l : List ByteArray) (o : Op5) (a : An) : ByteArray × Int × List ByteArray := showR n l o.kind o.a o.b o.c o.site a.code a.val a.freed
theorem show1_size (n : Int) (l : List ByteArray) (o : Op5) (a : An) : (show1 n l o a).1.size ≤ 127 ∧ (show1 n l o a).2.2.length ≤ l.length + 1 := by
  unfold show1 showR
  split
  · rename_i h
    obtain ⟨_, hb, _, _, _, _, hx, hl, _⟩ := ok_parts h
    have h1 := base_size n l o.kind o.a o.b o.c o.site a.code a.val a.freed.length
    have h2 := (stE_ok (p := (base n l o.kind o.a o.b o.c o.site a.code a.val a.freed.length, o.a)) hb hx a.freed.length (Nat.le_refl _)).2
    refine ⟨by simp only at h2 ⊢; omega, ?_⟩
    simp only [penT]
    split
    · omega
    · simp
  · exact ⟨Nat.zero_le _, Nat.le_succ _⟩
def enc (ops : List Op5) (ans : List An) : Nat → Option (List ByteArray × Int × List ByteArray)
  | 0 => some ([], 0, [])
  | i + 1 => match enc ops ans i with
    | none => none
    | some p => if (show1 p.2.1 p.2.2 (po ops i) (an ans i)).1 = ⟨#[]⟩ then none else some (p.1 ++ [(show1 p.2.1 p.2.2 (po ops i) (an ans i)).1], (show1 p.2.1 p.2.2 (po ops i) (an ans i)).2)
structure EncI (ops : List Op5) (ans : List An) (q : Nat × List ByteArray × Int × List ByteArray) : Prop where
  eq : enc ops ans q.1 = some q.2
  le : q.1 ≤ ops.length
  al : q.2.1.length = q.1
  sl : q.2.2.2.length ≤ q.1
  sz : ∀ i, (gS q.2.1 i).size ≤ 127
theorem gS_snoc {l : List ByteArray} {s : ByteArray} {b : Nat} (h : ∀ i, (gS l i).size ≤ b) (hs : s.size ≤ b) (i : Nat) : (gS (l ++ [s]) i).size ≤ b := by
  unfold gS at h ⊢
  rcases Nat.lt_trichotomy i l.length with h1 | h1 | h1
  · have := h i
    rw [List.getD_eq_getElem?_getD] at this ⊢
    rw [List.getElem?_append_left h1]; exact this
  · subst h1
    rw [List.getD_eq_getElem?_getD, List.getElem?_append_right (Nat.le_refl _)]
    simpa using hs
  · rw [List.getD_eq_getElem?_getD, List.getElem?_eq_none (by simp; omega)]; exact Nat.zero_le _
theorem EncI.next {ops : List Op5} {ans : List An} {q : Nat × List ByteArray × Int × List ByteArray} (h : EncI ops ans q) (hlt : q.1 < ops.length) (hne : (show1 q.2.2.1 q.2.2.2 (po ops q.1) (an ans q.1)).1 ≠ ⟨#[]⟩) :
    EncI ops ans (q.1 + 1, q.2.1 ++ [(show1 q.2.2.1 q.2.2.2 (po ops q.1) (an ans q.1)).1], (show1 q.2.2.1 q.2.2.2 (po ops q.1) (an ans q.1)).2) := by
  obtain ⟨h1, h2, h3, h4, h5⟩ := h
  have hz := show1_size q.2.2.1 q.2.2.2 (po ops q.1) (an ans q.1)
  refine ⟨by rw [enc, h1]; exact if_neg hne, hlt, by simp [h3], ?_, gS_snoc h5 hz.1⟩
  have := hz.2
  simp only at this ⊢; omega
attribute [irreducible] show1
end Go.Proofs.Ytnhicpkhkaihoaa.P
