/- Reading the pure texts: words for walking through them. -/
import Derived.Test.YtmikdglafmfnfaaEngPv
namespace Go.Proofs.Ytmikdglafmfnfaa.Eng
open Go Go.RowKit
set_option linter.unusedVariables false
set_option linter.unusedSimpArgs false
abbrev I (n : Int) : Value := .int .i64 n
theorem iv_eq (n : Nat) : iv n = I (Int.ofNat n) := rfl
/-- A 64-bit number. -/
def F64 (n : Int) : Prop := -2 ^ 63 ≤ n ∧ n < 2 ^ 63
theorem wrap_64 {n : Int} (h : F64 n) : IntKind.i64.wrap n = n := by
  obtain ⟨h1, h2⟩ := h
  rw [IntKind.wrap_i64]; omega
theorem prP_some {v : Value} {K : Value → Prop} (hp : plain v = true) (h : K v) : prP (some v) K := ⟨v, rfl, hp, h⟩
theorem prP_add {a b : Int} {K : Value → Prop} (hf : F64 (a + b)) (h : K (I (a + b))) : prP (bnI .add (I a) (I b)) K := prP_some (v := .int .i64 (IntKind.i64.wrap (a + b))) rfl (by rw [wrap_64 hf]; exact h)
theorem prP_sub {a b : Int} {K : Value → Prop} (hf : F64 (a - b)) (h : K (I (a - b))) : prP (bnI .sub (I a) (I b)) K := prP_some (v := .int .i64 (IntKind.i64.wrap (a - b))) rfl (by rw [wrap_64 hf]; exact h)
theorem prP_mul {a b : Int} {K : Value → Prop} (hf : F64 (a * b)) (h : K (I (a * b))) : prP (bnI .mul (I a) (I b)) K := prP_some (v := .int .i64 (IntKind.i64.wrap (a * b))) rfl (by rw [wrap_64 hf]; exact h)
theorem prP_lss {a b : Int} {K : Value → Prop} (h : K (.bool (decide (a < b)))) : prP (bnI .lss (I a) (I b)) K := prP_some rfl h
theorem prP_leq {a b : Int} {K : Value → Prop} (h : K (.bool (decide (a ≤ b)))) : prP (bnI .leq (I a) (I b)) K := prP_some rfl h
theorem prP_gtr {a b : Int} {K : Value → Prop} (h : K (.bool (decide (a > b)))) : prP (bnI .gtr (I a) (I b)) K := prP_some rfl h
theorem prP_geq {a b : Int} {K : Value → Prop} (h : K (.bool (decide (a ≥ b)))) : prP (bnI .geq (I a) (I b)) K := prP_some rfl h
theorem prP_eql {a b : Int} {K : Value → Prop} (h : K (.bool (a == b))) : prP (bnI .eql (I a) (I b)) K := prP_some rfl h
theorem prP_neq {a b : Int} {K : Value → Prop} (h : K (.bool (a != b))) : prP (bnI .neq (I a) (I b)) K := prP_some rfl h
theorem prP_not {b : Bool} {K : Value → Prop} (h : K (.bool !b)) : prP (un .not (.bool b)) K := prP_some rfl h
theorem prP_eqlS {a b : ByteArray} {K : Value → Prop} (h : K (.bool (a.toList == b.toList))) : prP (bnS .eql (.string a) (.string b)) K := prP_some rfl h
theorem prP_neqS {a b : ByteArray} {K : Value → Prop} (h : K (.bool !(a.toList == b.toList))) : prP (bnS .neq (.string a) (.string b)) K := prP_some rfl h
theorem prP_catS {a b : ByteArray} {K : Value → Prop} (hs : a.size + b.size < 2 ^ 63) (h : K (.string (a ++ b))) : prP (bnS .add (.string a) (.string b)) K := by
  refine ⟨.string (a ++ b), ?_, rfl, h⟩
  have : ¬ ((a.size + b.size : Nat) : Int) > IntKind.i64.max := by simp only [IntKind.max]; simp only [IntKind.signed, IntKind.bits]; simp; omega
  simp only [bnS, if_neg this]
theorem prP_lnS {a : ByteArray} {K : Value → Prop} (h : K (I a.size)) : prP (lnS (.string a)) K := prP_some rfl h
theorem cndP_i {b : Bool} {p q : Prop} (h1 : b = true → p) (h2 : b = false → q) : cndP (.bool b) p q := by
  cases b
  · exact .inr ⟨rfl, h2 rfl⟩
  · exact .inl ⟨rfl, h1 rfl⟩
/-- A condition on numbers. -/
theorem cndP_d {c : Prop} [Decidable c] {p q : Prop} (h1 : c → p) (h2 : ¬ c → q) : cndP (.bool (decide c)) p q :=
  cndP_i (fun h => h1 (of_decide_eq_true h)) (fun h => h2 (of_decide_eq_false h))
theorem cndP_ne {a b : Int} {p q : Prop} (h1 : a ≠ b → p) (h2 : a = b → q) : cndP (.bool (a != b)) p q :=
  cndP_i (fun h => h1 (by simpa using h)) (fun h => h2 (by simpa using h))
theorem cndP_eq {a b : Int} {p q : Prop} (h1 : a = b → p) (h2 : a ≠ b → q) : cndP (.bool (a == b)) p q :=
  cndP_i (fun h => h1 (by simpa using h)) (fun h => h2 (by simpa using h))
theorem ixW_i {n j : Nat} {K : Value → Prop} (hj : j < n) (h : K (iv j)) : ixW n (I j) K := ⟨.i64, j, rfl, hj, h⟩
theorem ldc_i {cs : List T} {off : Nat} {v : Value} {K : Value → Prop} (hc : cs[off]? = some (.c v)) (h : K v) : ldc cs [] off K := ⟨v, by simpa [cell, node] using hc, h⟩
/-- Slices of plain cells. -/
def tI (l : List Int) : List T := l.map fun n => .c (I n)
def tS (l : List ByteArray) : List T := l.map fun n => .c (.string n)
theorem cnt_tI (l : List Int) : cnt 1 (tI l) = l.length := by simp [cnt, tI]
theorem cnt_tS (l : List ByteArray) : cnt 1 (tS l) = l.length := by simp [cnt, tS]
theorem ldc_tI {l : List Int} {i : Nat} {K : Value → Prop} (hi : i < l.length) (h : K (I l[i])) : ldc (tI l) [] (natOf (iv i) * 1) K :=
  ldc_i (by rw [natOf_iv, Nat.mul_one]; simp [tI, hi]) h
theorem ldc_tS {l : List ByteArray} {i : Nat} {K : Value → Prop} (hi : i < l.length) (h : K (.string l[i])) : ldc (tS l) [] (natOf (iv i) * 1) K :=
  ldc_i (by rw [natOf_iv, Nat.mul_one]; simp [tS, hi]) h
theorem stc_tI {l : List Int} {i : Nat} {v : Int} {K : List T → Prop} (hi : i < l.length) (h : K (tI (l.set i v))) : stc (tI l) [] (natOf (iv i) * 1) (I v) K := by
  rw [natOf_iv, Nat.mul_one]
  refine ⟨⟨I l[i], by simp [cell, node, tI, hi]⟩, ?_⟩
  have : cput (tI l) [] i [.c (I v)] = tI (l.set i v) := by
    simp only [cput, node, nput, lput, tI, List.length_singleton]
    rw [List.set_eq_take_append_cons_drop, if_pos hi]
    simp [List.map_take, List.map_drop]
  rw [this]; exact h
theorem stc_tS {l : List ByteArray} {i : Nat} {v : ByteArray} {K : List T → Prop} (hi : i < l.length) (h : K (tS (l.set i v))) : stc (tS l) [] (natOf (iv i) * 1) (.string v) K := by
  rw [natOf_iv, Nat.mul_one]
  refine ⟨⟨.string l[i], by simp [cell, node, tS, hi]⟩, ?_⟩
  have : cput (tS l) [] i [.c (.string v)] = tS (l.set i v) := by
    simp only [cput, node, nput, lput, tS, List.length_singleton]
    rw [List.set_eq_take_append_cons_drop, if_pos hi]
    simp [List.map_take, List.map_drop]
  rw [this]; exact h
/-- A loop that counts up: P i is what holds at its head. -/
theorem loopP_up {F : J2 → J2} (xs : Nat → List Value) (cs : Nat → List (List T)) (n : Nat) (P : Nat → Prop) (h : ∀ (R : J2) i, i ≤ n → P i → (i < n → P (i + 1) → R (xs (i + 1)) (cs (i + 1))) → F R (xs i) (cs i)) {i : Nat} (hi : i ≤ n) (hP : P i) : loopP F (xs i) (cs i) := by
  intro R hR
  obtain ⟨k, hk⟩ : ∃ k, n = i + k := ⟨n - i, by omega⟩
  induction k generalizing i with
  | zero => exact hR _ _ (h R i hi hP fun hlt => by omega)
  | succ k ih => exact hR _ _ (h R i hi hP fun hlt hp => ih hlt hp (by omega))
theorem loopP_from {F : J2 → J2} {xs0 : List Value} {cs0 : List (List T)} (xs : Nat → List Value) (cs : Nat → List (List T)) (n : Nat) (P : Nat → Prop) (hx : xs0 = xs 0) (hc : cs0 = cs 0) (hP : P 0) (h : ∀ (R : J2) i, i ≤ n → P i → (i < n → P (i + 1) → R (xs (i + 1)) (cs (i + 1))) → F R (xs i) (cs i)) : loopP F xs0 cs0 := by
  subst hx; subst hc; exact loopP_up xs cs n P h (Nat.zero_le _) hP
theorem ixW_iv {n j : Nat} {K : Value → Prop} (hj : j < n) (h : K (iv j)) : ixW n (iv j) K := ⟨.i64, j, rfl, hj, h⟩
theorem prP_inc {j : Nat} {K : Value → Prop} (hf : (j : Int) + 1 < 2 ^ 63) (h : K (iv (j + 1))) : prP (bnI .add (iv j) (I 1)) K := prP_add (a := Int.ofNat j) ⟨by have := Int.natCast_nonneg j; simp only [Int.ofNat_eq_natCast] at *; omega, by simpa using hf⟩ h
theorem prP_ltN {a b : Nat} {K : Value → Prop} (h : K (.bool (decide (a < b)))) : prP (bnI .lss (iv a) (iv b)) K := prP_lss (a := Int.ofNat a) (b := Int.ofNat b) (by
  have : decide (Int.ofNat a < Int.ofNat b) = decide (a < b) := by simp
  rw [this]; exact h)
theorem prP_neN {a b : Nat} {K : Value → Prop} (h : K (.bool (a != b))) : prP (bnI .neq (iv a) (iv b)) K := prP_neq (a := Int.ofNat a) (b := Int.ofNat b) (by
  have : (Int.ofNat a != Int.ofNat b) = (a != b) := by rw [Bool.eq_iff_iff]; simp; omega
  rw [this]; exact h)
theorem cndP_neN {a b : Nat} {p q : Prop} (h1 : a ≠ b → p) (h2 : a = b → q) : cndP (.bool (a != b)) p q :=
  cndP_i (fun h => h1 (by simpa using h)) (fun h => h2 (by simpa using h))
end Go.Proofs.Ytmikdglafmfnfaa.Eng
