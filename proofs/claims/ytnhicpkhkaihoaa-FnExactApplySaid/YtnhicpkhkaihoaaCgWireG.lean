/- A part of the proof. -/
import Derived.Test.YtnhicpkhkaihoaaCgWireD
import Derived.Test.YtnhicpkhkaihoaaCgLawTyAnswer
/- Signed numbers, texts, frames and logs, as they are read. -/
namespace Go.Proofs.Ytnhicpkhkaihoaa.P
open Go Go.Proofs.Ytnhicpkhkaihoaa Go.Proofs.Ytnhicpkhkaihoaa.Eng
set_option maxHeartbeats 4000000
set_option linter.unusedVariables false
set_option linter.unusedSimpArgs false
attribute [local irreducible] prP gP gE gF cndP ixW ldc ldg ldl stc stg scW mkW apW loopP cl2 joinP pre2 selW
variable {w0 : World}
theorem rv_spec (s : ByteArray) : ((rv s).2 = 0 ∧ (rv s).1 = 0) ∨ ∃ j : Nat, 1 ≤ j ∧ j ≤ 7 ∧ j ≤ s.size ∧ (rv s).2 = j ∧ 0 ≤ (rv s).1 ∧ (rv s).1 < 2 ^ 49 ∧ V (rv s).1 = s.extract 0 j := by
  rcases rv_ok s with h | ⟨j, h1, h2, h3, h4, h5⟩
  · exact .inl (by rw [h]; exact ⟨rfl, rfl⟩)
  · have := val7_lt s h2
    exact .inr ⟨j, h1, h2, h3, by rw [h5], by rw [h5]; omega, by rw [h5]; simp only; omega, by rw [h5]; exact (V_extract h2 h3).2 h4⟩
theorem rv_bd (s : ByteArray) : 0 ≤ (rv s).1 ∧ (rv s).1 < 2 ^ 49 ∧ 0 ≤ (rv s).2 ∧ (rv s).2 ≤ 7 ∧ (rv s).2 ≤ s.size := by
  rcases rv_spec s with ⟨h1, h2⟩ | ⟨j, h1, h2, h3, h4, h5, h6, _⟩ <;> omega
def zag (n : Int) : Int := if n % 2 = 0 then n / 2 else 0 - n / 2 - 1
def ri (s : ByteArray) : Int × Int := if (rv s).2 = 0 ∨ (rv s).1 > 200000000000000 then (0, 0) else (zag (rv s).1, (rv s).2)
attribute [irreducible] ri zag
def rt (s : ByteArray) : ByteArray × Int := if (rv s).2 = 0 ∨ (rv s).1 > 8 ∨ (rv s).1 > s.size - (rv s).2 then (⟨#[]⟩, 0) else (s.extract (rv s).2.toNat ((rv s).2 + (rv s).1).toNat, (rv s).2 + (rv s).1)
attribute [irreducible] rt
/-! ### Frames -/
structure Frm where
  seq : Int
  pay : ByteArray
  n : Int
/-- The second number of a frame. -/
def rv2 (s : ByteArray) : Int × Int := rv (dr s (rv s).2.toNat)
theorem rv2_bd (s : ByteArray) : 0 ≤ (rv2 s).1 ∧ (rv2 s).1 < 2 ^ 49 ∧ 0 ≤ (rv2 s).2 ∧ (rv2 s).2 ≤ 7 ∧ (rv2 s).2 + (rv s).2 ≤ s.size := by
  have h := rv_bd s
  have h2 := rv_bd (dr s (rv s).2.toNat)
  rw [dr_size] at h2
  unfold rv2; omega
def payP (s : ByteArray) : ByteArray := s.extract ((rv s).2 + (rv2 s).2).toNat ((rv s).2 + (rv2 s).2 + (rv2 s).1).toNat
def frmBad (s : ByteArray) : Prop := (rv s).2 = 0 ∨ (rv2 s).2 = 0 ∨ (rv2 s).1 > 200 ∨ (rv2 s).1 > s.size - (rv s).2 - (rv2 s).2 - 4
instance (s : ByteArray) : Decidable (frmBad s) := inferInstanceAs (Decidable (_ ∨ _))
def rf (s : ByteArray) : Frm := if frmBad s ∨ frm (rv s).1 (payP s) ≠ s.extract 0 ((rv s).2 + (rv2 s).2 + (rv2 s).1 + 4).toNat then ⟨0, ⟨#[]⟩, 0⟩ else ⟨(rv s).1, payP s, (rv s).2 + (rv2 s).2 + (rv2 s).1 + 4⟩
theorem rf_bd (s : ByteArray) : 0 ≤ (rf s).n ∧ (rf s).n ≤ s.size ∧ ((rf s).n ≠ 0 → 6 ≤ (rf s).n) ∧ (rf s).pay.size ≤ 200 ∧ F64 (rf s).seq := by
  have h := rv_bd s
  have h2 := rv2_bd s
  unfold rf; split
  · exact ⟨by simp only; omega, by simp only; omega, fun hh => absurd rfl hh, Nat.zero_le _, by simp only; exact ⟨by omega, by omega⟩⟩
  · rename_i hn
    simp only [not_or, frmBad] at hn
    refine ⟨by simp only; omega, by simp only; omega, fun _ => by simp only; omega, ?_, by simp only; exact ⟨by omega, by omega⟩⟩
    simp only [payP, ByteArray.size_extract]; omega
attribute [irreducible] rf rv2 payP
end Go.Proofs.Ytnhicpkhkaihoaa.P
/- Logs, as they are read. -/
namespace Go.Proofs.Ytnhicpkhkaihoaa.P
open Go Go.Proofs.Ytnhicpkhkaihoaa Go.Proofs.Ytnhicpkhkaihoaa.Eng
set_option maxHeartbeats 4000000
set_option linter.unusedVariables false
set_option linter.unusedSimpArgs false
attribute [local irreducible] prP gP gE gF cndP ixW ldc ldg ldl stc stg scW mkW apW loopP cl2 joinP pre2 selW
variable {w0 : World}
/-- Frames, one behind the other: what they bear, and how it ends. -/
def rlF : Nat → ByteArray → List ByteArray → List ByteArray × Int
  | 0, _, _ => ([], 4)
  | f + 1, s, out => if s.size = 0 then ([], 4) else if (rf s).n = 0 then ([], 2) else if (rf s).seq ≠ out.length then ([], 3) else
      if (rf s).pay = ⟨#[]⟩ then (if (rf s).n < s.size then ([], 5) else (out, 0)) else rlF f (dr s (rf s).n.toNat) (out ++ [(rf s).pay])
def rl (s : ByteArray) : List ByteArray × Int := if s.size < 5 ∨ s.extract 0 5 ≠ magic then ([], 1) else rlF (s.size + 1) (dr s 5) []
/-- At the head of the loop. -/
structure RlI (s0 s : ByteArray) (out : List ByteArray) : Prop where
  sz : s.size + out.length ≤ s0.size
  go : ∃ f, s.size < f ∧ rlF f s out = rl s0
theorem RlI.next {s0 s : ByteArray} {out : List ByteArray} (h : RlI s0 s out) (h0 : s.size ≠ 0) (h1 : (rf s).n ≠ 0) (h2 : (rf s).seq = out.length) (h3 : (rf s).pay ≠ ⟨#[]⟩) : RlI s0 (dr s (rf s).n.toNat) (out ++ [(rf s).pay]) := by
  obtain ⟨g1, f, g2, g3⟩ := h
  have hb := rf_bd s
  have := hb.2.2.1 h1
  obtain ⟨f, rfl⟩ : ∃ f', f = f' + 1 := ⟨f - 1, by omega⟩
  rw [rlF, if_neg h0, if_neg h1, if_neg (by simpa using h2), if_neg h3] at g3
  exact ⟨by rw [dr_size, List.length_append, List.length_singleton]; omega, f, by rw [dr_size]; omega, g3⟩
theorem RlI.at_ {s0 s : ByteArray} {out : List ByteArray} (h : RlI s0 s out) : ∃ f, rlF (f + 1) s out = rl s0 := by
  obtain ⟨_, f, g2, g3⟩ := h
  obtain ⟨f, rfl⟩ : ∃ f', f = f' + 1 := ⟨f - 1, by omega⟩
  exact ⟨f, g3⟩
attribute [irreducible] rl
end Go.Proofs.Ytnhicpkhkaihoaa.P
/- Events, as they are read. -/
namespace Go.Proofs.Ytnhicpkhkaihoaa.P
open Go Go.Proofs.Ytnhicpkhkaihoaa Go.Proofs.Ytnhicpkhkaihoaa.Eng
set_option maxHeartbeats 4000000
set_option linter.unusedVariables false
set_option linter.unusedSimpArgs false
attribute [local irreducible] prP gP gE gF cndP ixW ldc ldg ldl stc stg scW mkW apW loopP cl2 joinP pre2 selW
variable {w0 : World}
def rdI (r : ByteArray) : Option (Int × ByteArray) := if (ri r).2 = 0 then none else some ((ri r).1, dr r (ri r).2.toNat)
def rdN (r : ByteArray) : Option (Int × ByteArray) := if (rv r).2 = 0 then none else some ((rv r).1, dr r (rv r).2.toNat)
def rdT (r : ByteArray) : Option (ByteArray × ByteArray) := if (rt r).2 = 0 then none else some ((rt r).1, dr r (rt r).2.toNat)
def EL {β : Type} (f : List Int → Option β) : Nat → List Int → Int → ByteArray → Option β
  | 0, acc, _, _ => f acc
  | m + 1, acc, last, r => (rdI r).bind fun p => EL f m (acc ++ [w64 (last + p.1)]) (w64 (last + p.1)) p.2
abbrev Ev := Op5 × An
def E8 (o : Op5) (code val : Int) (r : ByteArray) : Option Ev := (rdN r).bind fun p => if p.1 > 8 then none else EL (fun fr => some (o, ⟨code, val, fr⟩)) p.1.toNat [] o.a p.2
def E7 (o : Op5) (code : Int) (r : ByteArray) : Option Ev := (rdI r).bind fun p => E8 o code (w64 (o.a + p.1)) p.2
def E6 (o : Op5) (r : ByteArray) : Option Ev := (rdN r).bind fun p => E7 o p.1 p.2
def E5 (l : List ByteArray) (kind a b c k : Int) (r : ByteArray) : Option Ev := if k = 0 then (rdT r).bind fun p => E6 ⟨kind, a, b, c, p.1⟩ p.2 else if k ≤ l.length then E6 ⟨kind, a, b, c, gS l (k - 1).toNat⟩ r else none
def E4 (l : List ByteArray) (kind a b c : Int) (r : ByteArray) : Option Ev := (rdN r).bind fun p => E5 l kind a b c p.1 p.2
def E3 (l : List ByteArray) (kind a b : Int) (r : ByteArray) : Option Ev := (rdI r).bind fun p => E4 l kind a b (w64 (a + p.1)) p.2
def E2 (l : List ByteArray) (kind a : Int) (r : ByteArray) : Option Ev := (rdI r).bind fun p => E3 l kind a p.1 p.2
def E1 (last : Int) (l : List ByteArray) (kind : Int) (r : ByteArray) : Option Ev := (rdI r).bind fun p => E2 l kind (w64 (last + p.1)) p.2
def E0 (last : Int) (l : List ByteArray) (s : ByteArray) : Option Ev := (rdI s).bind fun p => E1 last l p.1 p.2
def evOk (last : Int) (l : List ByteArray) (s : ByteArray) (e : Ev) : Prop := (show1 last l e.1 e.2).1 ≠ ⟨#[]⟩ ∧ (show1 last l e.1 e.2).1 = s
instance (last : Int) (l : List ByteArray) (s : ByteArray) (e : Ev) : Decidable (evOk last l s e) := inferInstanceAs (Decidable (_ ∧ _))
/-- What is read of an event: the operation, the answer, the pen behind it, and whether it is one. -/
structure RE where
  o : Op5
  a : An
  last : Int
  sites : List ByteArray
  ok : Bool
def readE (last : Int) (l : List ByteArray) (s : ByteArray) : RE := match E0 last l s with
  | none => ⟨⟨0, 0, 0, 0, ⟨#[]⟩⟩, ⟨0, 0, []⟩, last, l, false⟩
  | some e => if evOk last l s e then ⟨e.1, e.2, (show1 last l e.1 e.2).2.1, (show1 last l e.1 e.2).2.2, true⟩ else ⟨⟨0, 0, 0, 0, ⟨#[]⟩⟩, ⟨0, 0, []⟩, last, l, false⟩
/-! ### The program's reader -/
structure EInv (X : Option Ev) (b : Bool) (Y : Option Ev) : Prop where
  go : b = false → X = Y
  no : b = true → X = none
theorem EInv.start {X Y : Option Ev} (h : X = Y) : EInv X false Y := ⟨fun _ => h, fun h => by cases h⟩
theorem EInv.off {X : Option Ev} {b : Bool} (h : EInv X b none) : X = none := by
  cases b with
  | true => exact h.no rfl
  | false => exact h.go rfl
theorem show1_long {n : Int} {l : List ByteArray} {o : Op5} {a : An} (h : 8 < a.freed.length) : (show1 n l o a).1 = ⟨#[]⟩ := by
  unfold show1 showR
  rw [if_neg]
  intro hok
  have := (ok_parts hok).2.2.2.2.2.2.2.1
  omega
/-- The first k of the numbers are read. -/
structure LpI (X : Option Ev) (o : Op5) (code val n : Int) (q : Nat × Int × List Int × ByteArray × Bool) (s0 : ByteArray) : Prop where
  inv : n ≤ 8 → EInv X q.2.2.2.2 (EL (fun fr => some (o, ⟨code, val, fr⟩)) (n.toNat - q.1) q.2.2.1 q.2.1 q.2.2.2.1)
  big : n > 8 → X = none
  le : q.1 ≤ n
  len : q.2.2.1.length = q.1
  sz : q.2.2.2.2 = false → q.2.2.2.1.size + q.1 ≤ s0.size
  sz2 : q.2.2.2.1.size ≤ s0.size
  sz3 : q.1 ≤ s0.size + 1
attribute [irreducible] rdI rdN rdT
end Go.Proofs.Ytnhicpkhkaihoaa.P
