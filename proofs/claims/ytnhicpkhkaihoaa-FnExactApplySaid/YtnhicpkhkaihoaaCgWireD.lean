/- A part of the proof. -/
import Derived.Test.YtnhicpkhkaihoaaCgTxtH
import Derived.Test.YtnhicpkhkaihoaaCgHpA
/- Sums, frames, logs, as they are written. -/
namespace Go.Proofs.Ytnhicpkhkaihoaa.P
open Go Go.Proofs.Ytnhicpkhkaihoaa Go.Proofs.Ytnhicpkhkaihoaa.Eng
set_option linter.unusedVariables false
set_option maxHeartbeats 4000000
set_option linter.unusedVariables false
set_option linter.unusedSimpArgs false
attribute [local irreducible] prP gP gE gF cndP ixW ldc ldg ldl stc stg scW mkW apW loopP cl2 joinP pre2 selW
variable {w0 : World}
abbrev U (n : Int) : Value := .int .u32 n
/-- Byte i of a text. -/
def by_ (s : ByteArray) (i : Nat) : Nat := (s.data.getD i 0).toNat
theorem by_lt (s : ByteArray) (i : Nat) : by_ s i < 256 := UInt8.toNat_lt _
/-! ### Sums -/
def crcB (c : Nat) : Nat := if c % 2 = 1 then (c / 2) ^^^ 2197175160 else c / 2
def crcN : Nat → Nat → Nat
  | 0, c => c
  | k + 1, c => crcB (crcN k c)
def crcS (s : ByteArray) : Nat → Nat
  | 0 => 4294967295
  | i + 1 => crcN 8 (crcS s i ^^^ by_ s i)
def crc (s : ByteArray) : Nat := 4294967295 - crcS s s.size
/-! ### Numbers in four bytes -/
def fxL (n : Nat) : List Nat := [n / 16777216 % 256, n / 65536 % 256, n / 256 % 256, n % 256]
def FX (n : Nat) : ByteArray := bytesL (fxL n)
/-! ### Frames and logs -/
def frm (n : Int) (p : ByteArray) : ByteArray := if (0 ≤ n ∧ n ≤ 400) ∧ p.size ≤ 200 then ((V n ++ V p.size) ++ p) ++ FX (crc ((V n ++ V p.size) ++ p)) else ⟨#[]⟩
def magic : ByteArray := ⟨#[72, 76, 79, 71, 1]⟩
attribute [irreducible] frm crc FX
def payB (p : ByteArray) : Prop := 1 ≤ (p.size : Int) ∧ (p.size : Int) ≤ 200
instance (p : ByteArray) : Decidable (payB p) := inferInstanceAs (Decidable (_ ∧ _))
end Go.Proofs.Ytnhicpkhkaihoaa.P
/- Encode. -/
namespace Go.Proofs.Ytnhicpkhkaihoaa.P
open Go Go.Proofs.Ytnhicpkhkaihoaa Go.Proofs.Ytnhicpkhkaihoaa.Eng
set_option maxHeartbeats 4000000
set_option linter.unusedVariables false
set_option linter.unusedSimpArgs false
attribute [local irreducible] prP gP gE gF cndP ixW ldc ldg ldl stc stg scW mkW apW loopP cl2 joinP pre2 selW
variable {w0 : World}
def show1 (n : Int) (l : List ByteArray) (o : Op5) (a : An) : ByteArray × Int × List ByteArray := showR n l o.kind o.a o.b o.c o.site a.code a.val a.freed
theorem show1_size (n : Int) (l : List ByteArray) (o : Op5) (a : An) : (show1 n l o a).1.size ≤ 127 ∧ (show1 n l o a).2.2.length ≤ l.length + 1 := by
  unfold show1 showR
  split
  · rename_i h
    obtain ⟨_, hb, _, _, _, _, hx, hl, _⟩ := ok_parts h
    have h1 := base_size n l o.kind o.a o.b o.c o.site a.code a.val a.freed.length
    have h2 := (stE_ok (p := (base n l o.kind o.a o.b o.c o.site a.code a.val a.freed.length, o.a)) hb hx a.freed.length (Nat.le_refl _)).2
    refine ⟨by simp only at h2 ⊢; omega, ?_⟩
    simp only [penT]
    split
    · omega
    · simp
  · exact ⟨Nat.zero_le _, Nat.le_succ _⟩
def enc (ops : List Op5) (ans : List An) : Nat → Option (List ByteArray × Int × List ByteArray)
  | 0 => some ([], 0, [])
  | i + 1 => match enc ops ans i with
    | none => none
    | some p => if (show1 p.2.1 p.2.2 (po ops i) (an ans i)).1 = ⟨#[]⟩ then none else some (p.1 ++ [(show1 p.2.1 p.2.2 (po ops i) (an ans i)).1], (show1 p.2.1 p.2.2 (po ops i) (an ans i)).2)
structure EncI (ops : List Op5) (ans : List An) (q : Nat × List ByteArray × Int × List ByteArray) : Prop where
  eq : enc ops ans q.1 = some q.2
  le : q.1 ≤ ops.length
  al : q.2.1.length = q.1
  sl : q.2.2.2.length ≤ q.1
  sz : ∀ i, (gS q.2.1 i).size ≤ 127
theorem gS_snoc {l : List ByteArray} {s : ByteArray} {b : Nat} (h : ∀ i, (gS l i).size ≤ b) (hs : s.size ≤ b) (i : Nat) : (gS (l ++ [s]) i).size ≤ b := by
  unfold gS at h ⊢
  rcases Nat.lt_trichotomy i l.length with h1 | h1 | h1
  · have := h i
    rw [List.getD_eq_getElem?_getD] at this ⊢
    rw [List.getElem?_append_left h1]; exact this
  · subst h1
    rw [List.getD_eq_getElem?_getD, List.getElem?_append_right (Nat.le_refl _)]
    simpa using hs
  · rw [List.getD_eq_getElem?_getD, List.getElem?_eq_none (by simp; omega)]; exact Nat.zero_le _
theorem EncI.next {ops : List Op5} {ans : List An} {q : Nat × List ByteArray × Int × List ByteArray} (h : EncI ops ans q) (hlt : q.1 < ops.length) (hne : (show1 q.2.2.1 q.2.2.2 (po ops q.1) (an ans q.1)).1 ≠ ⟨#[]⟩) :
    EncI ops ans (q.1 + 1, q.2.1 ++ [(show1 q.2.2.1 q.2.2.2 (po ops q.1) (an ans q.1)).1], (show1 q.2.2.1 q.2.2.2 (po ops q.1) (an ans q.1)).2) := by
  obtain ⟨h1, h2, h3, h4, h5⟩ := h
  have hz := show1_size q.2.2.1 q.2.2.2 (po ops q.1) (an ans q.1)
  refine ⟨by rw [enc, h1]; exact if_neg hne, hlt, by simp [h3], ?_, gS_snoc h5 hz.1⟩
  have := hz.2
  simp only at this ⊢; omega
attribute [irreducible] show1
end Go.Proofs.Ytnhicpkhkaihoaa.P
/- Numbers, texts and frames, as they are read. -/
namespace Go.Proofs.Ytnhicpkhkaihoaa.P
open Go Go.Proofs.Ytnhicpkhkaihoaa Go.Proofs.Ytnhicpkhkaihoaa.Eng
set_option maxHeartbeats 4000000
set_option linter.unusedVariables false
set_option linter.unusedSimpArgs false
attribute [local irreducible] prP gP gE gF cndP ixW ldc ldg ldl stc stg scW mkW apW loopP cl2 joinP pre2 selW
variable {w0 : World}
/-- What stands behind the first a bytes. -/
def dr (s : ByteArray) (a : Nat) : ByteArray := s.extract a s.size
theorem dr_size (s : ByteArray) (a : Nat) : (dr s a).size = s.size - a := by simp [dr]
/-! ### Numbers in sevens of bits -/
def bys (s : ByteArray) (k : Nat) : List Nat := (List.range k).map (by_ s)
def dec7 : List Nat → Nat
  | [] => 0
  | x :: r => x % 128 + 128 * dec7 r
def canB : Bool → List Nat → Bool
  | _, [] => false
  | f, [x] => decide (x < 128) && (f || decide (x ≠ 0))
  | _, x :: y :: r => decide (x ≥ 128) && canB false (y :: r)
theorem dec7_pos : ∀ {L : List Nat}, canB false L = true → 1 ≤ dec7 L
  | [], h => by simp [canB] at h
  | [x], h => by simp [canB] at h; simp only [dec7]; omega
  | x :: y :: r, h => by
    simp only [canB, Bool.and_eq_true] at h
    have := dec7_pos h.2
    simp only [dec7] at this ⊢; omega
theorem vd_dec : ∀ {L : List Nat} {f : Bool} {k : Nat}, (∀ x ∈ L, x < 256) → canB f L = true → L.length ≤ k + 1 → vd k (dec7 L) = L
  | [], f, k, _, h, _ => by simp [canB] at h
  | [x], f, k, _, h, _ => by
    simp only [canB, Bool.and_eq_true, decide_eq_true_eq] at h
    have h1 : x % 128 + 128 * 0 = x := by omega
    simp only [dec7, h1]
    cases k with
    | zero => rfl
    | succ k => rw [vd, if_neg (by omega)]
  | x :: y :: r, f, 0, _, h, hl => by simp at hl
  | x :: y :: r, f, k + 1, hb, h, hl => by
    simp only [canB, Bool.and_eq_true, decide_eq_true_eq] at h
    have h1 := dec7_pos h.2
    have hx := hb x (by simp)
    have h2 : dec7 (x :: y :: r) = x % 128 + 128 * dec7 (y :: r) := rfl
    have h3 : dec7 (x :: y :: r) / 128 = dec7 (y :: r) := by omega
    have h4 : 128 + dec7 (x :: y :: r) % 128 = x := by omega
    rw [vd, if_pos (by omega), h3, h4, vd_dec (L := y :: r) (fun z hz => hb z (by simp [hz])) h.2 (by simpa using hl)]
theorem vd_ne : ∀ k n, vd k n ≠ []
  | 0, n => by simp [vd]
  | k + 1, n => by unfold vd; split <;> simp
theorem can_vd : ∀ {k n : Nat}, n < 128 ^ (k + 1) → canB true (vd k n) = true ∧ (1 ≤ n → canB false (vd k n) = true)
  | 0, n, h => by simp at h; simp [vd, canB, h]; omega
  | k + 1, n, h => by
    unfold vd
    split
    · rename_i hge
      have hd : n / 128 < 128 ^ (k + 1) := by rw [Nat.pow_succ] at h; omega
      have h2 := (can_vd hd).2 (by omega)
      cases hv : vd k (n / 128) with
      | nil => exact absurd hv (vd_ne _ _)
      | cons y r =>
        rw [hv] at h2
        have : canB false (y :: r) = true := h2
        simp [canB, this]
    · simp [canB]; omega
theorem dec7_lt : ∀ L : List Nat, dec7 L < 128 ^ L.length
  | [] => by simp [dec7]
  | x :: r => by have := dec7_lt r; simp only [dec7, List.length_cons, Nat.pow_succ]; omega
theorem bys_len (s : ByteArray) (k : Nat) : (bys s k).length = k := by simp [bys]
theorem bys_lt (s : ByteArray) (k : Nat) : ∀ x ∈ bys s k, x < 256 := by
  intro x hx
  obtain ⟨i, _, rfl⟩ := List.mem_map.1 hx
  exact by_lt s i
def val7 (s : ByteArray) (k : Nat) : Nat := dec7 (bys s k)
theorem val7_lt (s : ByteArray) {k : Nat} (hk : k ≤ 7) : val7 s k < 2 ^ 49 := by
  have h := dec7_lt (bys s k)
  rw [bys_len] at h
  have : 128 ^ k ≤ 128 ^ 7 := Nat.pow_le_pow_right (by omega) hk
  have : (128 : Nat) ^ 7 = 2 ^ 49 := by decide
  unfold val7; omega
/-- The first k bytes are the number that they make. -/
def canK (s : ByteArray) (k : Nat) : Bool := canB true (bys s k)
theorem bytesL_data (l : List Nat) : (bytesL l).data.toList = l.map UInt8.ofNat := by
  have : ∀ (l : List Nat) (b : ByteArray), (l.foldl (fun b n => b.push (UInt8.ofNat n)) b).data.toList = b.data.toList ++ l.map UInt8.ofNat := by
    intro l
    induction l with
    | nil => intro b; simp
    | cons a l ih => intro b; rw [List.foldl_cons, ih]; simp
  rw [bytesL, this]; rfl
theorem extract_bys {s : ByteArray} {k : Nat} (hk : k ≤ s.size) : s.extract 0 k = bytesL (bys s k) := by
  apply ByteArray.ext
  apply Array.ext'
  rw [bytesL_data, ByteArray.data_extract, Array.toList_extract]
  apply List.ext_getElem
  · simp [bys]; have : s.size = s.data.size := rfl; omega
  · intro i h1 h2
    have hi : i < k := by simpa [bys] using h2
    have his : i < s.data.size := by have : s.size = s.data.size := rfl; omega
    simp [bys, by_, Array.getD, his]
    intro hcon; have : s.size = s.data.size := rfl; omega
theorem bytesL_inj {a b : List Nat} (ha : ∀ x ∈ a, x < 256) (hb : ∀ x ∈ b, x < 256) (h : bytesL a = bytesL b) : a = b := by
  have h1 : a.map UInt8.ofNat = b.map UInt8.ofNat := by rw [← bytesL_data, ← bytesL_data, h]
  have h2 := congrArg (List.map UInt8.toNat) h1
  simp only [List.map_map] at h2
  have : ∀ l : List Nat, (∀ x ∈ l, x < 256) → l.map (UInt8.toNat ∘ UInt8.ofNat) = l := by
    intro l hl
    induction l with
    | nil => rfl
    | cons x l ih =>
      have hx := hl x (by simp)
      rw [List.map_cons, ih fun y hy => hl y (by simp [hy])]
      simp [Nat.mod_eq_of_lt hx]
  rwa [this a ha, this b hb] at h2
theorem vd_lt : ∀ (k n : Nat), n < 128 ^ (k + 1) → ∀ x ∈ vd k n, x < 256
  | 0, n, h => by simp at h; simp [vd]; omega
  | k + 1, n, h => by
    unfold vd
    split
    · intro x hx
      rcases List.mem_cons.1 hx with rfl | hx
      · omega
      · exact vd_lt k (n / 128) (by rw [Nat.pow_succ] at h; omega) x hx
    · simp; omega
theorem V_nat {n : Nat} (h : n < 2 ^ 49) : V n = bytesL (vd 6 n) := by
  rw [V, if_pos (by rw [inB_iff]; omega), Int.toNat_natCast]
/-- The number that k bytes make is written as they stand just if they are right. -/
theorem V_extract {s : ByteArray} {k : Nat} (hk : k ≤ 7) (hs : k ≤ s.size) : V (val7 s k) = s.extract 0 k ↔ canK s k = true := by
  have hlt := val7_lt s hk
  have h49 : (128 : Nat) ^ (6 + 1) = 2 ^ 49 := by decide
  rw [V_nat hlt, extract_bys hs]
  constructor
  · intro h
    have := bytesL_inj (vd_lt 6 _ (by rw [h49]; exact hlt)) (bys_lt s k) h
    rw [canK, ← this]
    exact (can_vd (by rw [h49]; exact hlt)).1
  · intro h
    rw [val7, vd_dec (bys_lt s k) h (by rw [bys_len]; omega)]
def rvF (s : ByteArray) : Nat → Nat → Int × Int
  | 0, _ => (0, 0)
  | f + 1, j => if j ≤ s.size ∧ canK s j = true then ((val7 s j : Int), (j : Int)) else rvF s f (j + 1)
/-- What is read of a number, and how many bytes it has. -/
def rv (s : ByteArray) : Int × Int := rvF s 7 1
theorem rv_ok (s : ByteArray) : rv s = (0, 0) ∨ ∃ j : Nat, 1 ≤ j ∧ j ≤ 7 ∧ j ≤ s.size ∧ canK s j = true ∧ rv s = ((val7 s j : Int), (j : Int)) := by
  have : ∀ f i, 1 ≤ i → i + f ≤ 8 → rvF s f i = (0, 0) ∨ ∃ j : Nat, 1 ≤ j ∧ j ≤ 7 ∧ j ≤ s.size ∧ canK s j = true ∧ rvF s f i = ((val7 s j : Int), (j : Int)) := by
    intro f
    induction f with
    | zero => intro i _ _; exact .inl rfl
    | succ f ih =>
      intro i h1 h2
      by_cases hc : i ≤ s.size ∧ canK s i = true
      · exact .inr ⟨i, h1, by omega, hc.1, hc.2, by rw [rvF, if_pos hc]⟩
      · rw [rvF, if_neg hc]; exact ih (i + 1) (by omega) (by omega)
  exact this 7 1 (by omega) (by omega)
attribute [irreducible] rv rvF canK val7 bys dr
end Go.Proofs.Ytnhicpkhkaihoaa.P
