/- Reading the pure texts: words for walking through them. -/
import Derived.Test.YtnhicpkhkaihoaaCbEngM5
import Derived.Test.YtnhicpkhkaihoaaCbEngM2
namespace Go.Proofs.Ytnhicpkhkaihoaa.Eng
open Go Go.RowKit
set_option linter.unusedVariables false
set_option linter.unusedSimpArgs false
abbrev I (n : Int) : Value := .int .i64 n
theorem iv_eq (n : Nat) : iv n = I (Int.ofNat n) := rfl
/-- A 64-bit number. -/
def F64 (n : Int) : Prop := -2 ^ 63 ≤ n ∧ n < 2 ^ 63
theorem wrap_64 {n : Int} (h : F64 n) : IntKind.i64.wrap n = n := by
  obtain ⟨h1, h2⟩ := h
  rw [IntKind.wrap_i64]; omega
theorem prP_some {v : Value} {K : Value → Prop} (hp : plain v = true) (h : K v) : prP (some v) K := ⟨v, rfl, hp, h⟩
theorem prP_add {a b : Int} {K : Value → Prop} (hf : F64 (a + b)) (h : K (I (a + b))) : prP (bnI .add (I a) (I b)) K := prP_some (v := .int .i64 (IntKind.i64.wrap (a + b))) rfl (by rw [wrap_64 hf]; exact h)
theorem prP_sub {a b : Int} {K : Value → Prop} (hf : F64 (a - b)) (h : K (I (a - b))) : prP (bnI .sub (I a) (I b)) K := prP_some (v := .int .i64 (IntKind.i64.wrap (a - b))) rfl (by rw [wrap_64 hf]; exact h)
theorem prP_lss {a b : Int} {K : Value → Prop} (h : K (.bool (decide (a < b)))) : prP (bnI .lss (I a) (I b)) K := prP_some rfl h
theorem prP_leq {a b : Int} {K : Value → Prop} (h : K (.bool (decide (a ≤ b)))) : prP (bnI .leq (I a) (I b)) K := prP_some rfl h
theorem prP_gtr {a b : Int} {K : Value → Prop} (h : K (.bool (decide (a > b)))) : prP (bnI .gtr (I a) (I b)) K := prP_some rfl h
theorem prP_geq {a b : Int} {K : Value → Prop} (h : K (.bool (decide (a ≥ b)))) : prP (bnI .geq (I a) (I b)) K := prP_some rfl h
theorem prP_neq {a b : Int} {K : Value → Prop} (h : K (.bool (a != b))) : prP (bnI .neq (I a) (I b)) K := prP_some rfl h
theorem prP_not {b : Bool} {K : Value → Prop} (h : K (.bool !b)) : prP (un .not (.bool b)) K := prP_some rfl h
theorem prP_eqlS {a b : ByteArray} {K : Value → Prop} (h : K (.bool (a.toList == b.toList))) : prP (bnS .eql (.string a) (.string b)) K := prP_some rfl h
theorem prP_neqS {a b : ByteArray} {K : Value → Prop} (h : K (.bool !(a.toList == b.toList))) : prP (bnS .neq (.string a) (.string b)) K := prP_some rfl h
theorem prP_catS {a b : ByteArray} {K : Value → Prop} (hs : a.size + b.size < 2 ^ 63) (h : K (.string (a ++ b))) : prP (bnS .add (.string a) (.string b)) K := by
  refine ⟨.string (a ++ b), ?_, rfl, h⟩
  have : ¬ ((a.size + b.size : Nat) : Int) > IntKind.i64.max := by simp only [IntKind.max]; simp only [IntKind.signed, IntKind.bits]; simp; omega
  simp only [bnS, if_neg this]
theorem prP_lnS {a : ByteArray} {K : Value → Prop} (h : K (I a.size)) : prP (lnS (.string a)) K := prP_some rfl h
theorem cndP_i {b : Bool} {p q : Prop} (h1 : b = true → p) (h2 : b = false → q) : cndP (.bool b) p q := by
  cases b
  · exact .inr ⟨rfl, h2 rfl⟩
  · exact .inl ⟨rfl, h1 rfl⟩
/-- A condition on numbers. -/
theorem cndP_d {c : Prop} [Decidable c] {p q : Prop} (h1 : c → p) (h2 : ¬ c → q) : cndP (.bool (decide c)) p q :=
  cndP_i (fun h => h1 (of_decide_eq_true h)) (fun h => h2 (of_decide_eq_false h))
theorem cndP_ne {a b : Int} {p q : Prop} (h1 : a ≠ b → p) (h2 : a = b → q) : cndP (.bool (a != b)) p q :=
  cndP_i (fun h => h1 (by simpa using h)) (fun h => h2 (by simpa using h))
theorem ldc_i {cs : List T} {off : Nat} {v : Value} {K : Value → Prop} (hc : cs[off]? = some (.c v)) (h : K v) : ldc cs [] off K := ⟨v, by simpa [cell, node] using hc, h⟩
/-- Slices of plain cells. -/
def tI (l : List Int) : List T := l.map fun n => .c (I n)
def tS (l : List ByteArray) : List T := l.map fun n => .c (.string n)
theorem cnt_tI (l : List Int) : cnt 1 (tI l) = l.length := by simp [cnt, tI]
theorem cnt_tS (l : List ByteArray) : cnt 1 (tS l) = l.length := by simp [cnt, tS]
theorem ldc_tI {l : List Int} {i : Nat} {K : Value → Prop} (hi : i < l.length) (h : K (I l[i])) : ldc (tI l) [] (natOf (iv i) * 1) K :=
  ldc_i (by rw [natOf_iv, Nat.mul_one]; simp [tI, hi]) h
theorem ldc_tS {l : List ByteArray} {i : Nat} {K : Value → Prop} (hi : i < l.length) (h : K (.string l[i])) : ldc (tS l) [] (natOf (iv i) * 1) K :=
  ldc_i (by rw [natOf_iv, Nat.mul_one]; simp [tS, hi]) h
theorem stc_tI {l : List Int} {i : Nat} {v : Int} {K : List T → Prop} (hi : i < l.length) (h : K (tI (l.set i v))) : stc (tI l) [] (natOf (iv i) * 1) (I v) K := by
  rw [natOf_iv, Nat.mul_one]
  refine ⟨⟨I l[i], by simp [cell, node, tI, hi]⟩, ?_⟩
  have : cput (tI l) [] i [.c (I v)] = tI (l.set i v) := by
    simp only [cput, node, nput, lput, tI, List.length_singleton]
    rw [List.set_eq_take_append_cons_drop, if_pos hi]
    simp [List.map_take, List.map_drop]
  rw [this]; exact h
theorem stc_tS {l : List ByteArray} {i : Nat} {v : ByteArray} {K : List T → Prop} (hi : i < l.length) (h : K (tS (l.set i v))) : stc (tS l) [] (natOf (iv i) * 1) (.string v) K := by
  rw [natOf_iv, Nat.mul_one]
  refine ⟨⟨.string l[i], by simp [cell, node, tS, hi]⟩, ?_⟩
  have : cput (tS l) [] i [.c (.string v)] = tS (l.set i v) := by
    simp only [cput, node, nput, lput, tS, List.length_singleton]
    rw [List.set_eq_take_append_cons_drop, if_pos hi]
    simp [List.map_take, List.map_drop]
  rw [this]; exact h
/-- A loop that counts up: P i is what holds at its head. -/
theorem loopP_up {F : J2 → J2} (xs : Nat → List Value) (cs : Nat → List (List T)) (n : Nat) (P : Nat → Prop) (h : ∀ (R : J2) i, i ≤ n → P i → (i < n → P (i + 1) → R (xs (i + 1)) (cs (i + 1))) → F R (xs i) (cs i)) {i : Nat} (hi : i ≤ n) (hP : P i) : loopP F (xs i) (cs i) := by
  intro R hR
  obtain ⟨k, hk⟩ : ∃ k, n = i + k := ⟨n - i, by omega⟩
  induction k generalizing i with
  | zero => exact hR _ _ (h R i hi hP fun hlt => by omega)
  | succ k ih => exact hR _ _ (h R i hi hP fun hlt hp => ih hlt hp (by omega))
theorem loopP_from {F : J2 → J2} {xs0 : List Value} {cs0 : List (List T)} (xs : Nat → List Value) (cs : Nat → List (List T)) (n : Nat) (P : Nat → Prop) (hx : xs0 = xs 0) (hc : cs0 = cs 0) (hP : P 0) (h : ∀ (R : J2) i, i ≤ n → P i → (i < n → P (i + 1) → R (xs (i + 1)) (cs (i + 1))) → F R (xs i) (cs i)) : loopP F xs0 cs0 := by
  subst hx; subst hc; exact loopP_up xs cs n P h (Nat.zero_le _) hP
theorem ixW_iv {n j : Nat} {K : Value → Prop} (hj : j < n) (h : K (iv j)) : ixW n (iv j) K := ⟨.i64, j, rfl, hj, h⟩
theorem prP_inc {j : Nat} {K : Value → Prop} (hf : (j : Int) + 1 < 2 ^ 63) (h : K (iv (j + 1))) : prP (bnI .add (iv j) (I 1)) K := prP_add (a := Int.ofNat j) ⟨by have := Int.natCast_nonneg j; simp only [Int.ofNat_eq_natCast] at *; omega, by simpa using hf⟩ h
theorem prP_ltN {a b : Nat} {K : Value → Prop} (h : K (.bool (decide (a < b)))) : prP (bnI .lss (iv a) (iv b)) K := prP_lss (a := Int.ofNat a) (b := Int.ofNat b) (by
  have : decide (Int.ofNat a < Int.ofNat b) = decide (a < b) := by simp
  rw [this]; exact h)
theorem prP_neN {a b : Nat} {K : Value → Prop} (h : K (.bool (a != b))) : prP (bnI .neq (iv a) (iv b)) K := prP_neq (a := Int.ofNat a) (b := Int.ofNat b) (by
  have : (Int.ofNat a != Int.ofNat b) = (a != b) := by rw [Bool.eq_iff_iff]; simp; omega
  rw [this]; exact h)
theorem cndP_neN {a b : Nat} {p q : Prop} (h1 : a ≠ b → p) (h2 : a = b → q) : cndP (.bool (a != b)) p q :=
  cndP_i (fun h => h1 (by simpa using h)) (fun h => h2 (by simpa using h))
end Go.Proofs.Ytnhicpkhkaihoaa.Eng
/- Words for walking through pure texts, and rows of structs as trees. -/
namespace Go.Proofs.Ytnhicpkhkaihoaa.Eng
open Go Go.RowKit
set_option linter.unusedVariables false
set_option linter.unusedSimpArgs false
/-! ### Numbers -/
/-- What 64 bits hold of a number. -/
def w64 (n : Int) : Int := IntKind.i64.wrap n
theorem prP_addw {a b : Int} {K : Value → Prop} (h : K (I (w64 (a + b)))) : prP (bnI .add (I a) (I b)) K := prP_some rfl h
theorem prP_subw {a b : Int} {K : Value → Prop} (h : K (I (w64 (a - b)))) : prP (bnI .sub (I a) (I b)) K := prP_some rfl h
theorem prP_eqd {a b : Int} {K : Value → Prop} (h : K (.bool (decide (a = b)))) : prP (bnI .eql (I a) (I b)) K := prP_some rfl h
theorem prP_ned {a b : Int} {K : Value → Prop} (h : K (.bool (decide (a ≠ b)))) : prP (bnI .neq (I a) (I b)) K := by
  refine prP_neq ?_
  have : (a != b) = decide (a ≠ b) := by rw [Bool.eq_iff_iff]; simp
  rw [this]; exact h
theorem prP_rem {a b : Int} {K : Value → Prop} (ha : 0 ≤ a) (hb : 0 < b) (h : K (I (a % b))) : prP (bnI .rem (I a) (I b)) K := by
  refine ⟨.int .i64 (a.tmod b), ?_, rfl, ?_⟩
  · simp [bnI]; omega
  · rw [Int.tmod_eq_emod_of_nonneg ha]; exact h
theorem prP_quo {a b : Int} {K : Value → Prop} (ha : 0 ≤ a) (hf : F64 a) (hb : 0 < b) (h : K (I (a / b))) : prP (bnI .quo (I a) (I b)) K := by
  have hd : a.tdiv b = a / b := Int.tdiv_eq_ediv_of_nonneg ha
  have h1 : 0 ≤ a / b := Int.ediv_nonneg ha (by omega)
  have h2 : a / b ≤ a := Int.ediv_le_self _ ha
  refine ⟨.int .i64 (IntKind.i64.wrap (a.tdiv b)), ?_, rfl, ?_⟩
  · simp [bnI]; omega
  · rw [hd, wrap_64 ⟨by omega, by have := hf.2; omega⟩]; exact h
/-! ### Yes and no -/
theorem prP_notd {c : Prop} [Decidable c] {K : Value → Prop} (h : K (.bool (decide ¬ c))) : prP (un .not (.bool (decide c))) K := by
  refine prP_not ?_
  have : (!decide c) = decide ¬ c := by simp
  rw [this]; exact h
theorem prP_notnd {c : Prop} [Decidable c] {K : Value → Prop} (h : K (.bool (decide c))) : prP (un .not (.bool (decide ¬ c))) K := by
  refine prP_not ?_
  have : (!decide ¬ c) = decide c := by simp
  rw [this]; exact h
theorem BA_ext {a b : ByteArray} (h : a.toList = b.toList) : a = b := by
  rw [ByteArray.toList_eq, ByteArray.toList_eq] at h
  exact ByteArray.ext (Array.ext' h)
theorem prP_eqSd {a b : ByteArray} {K : Value → Prop} (h : K (.bool (decide (a = b)))) : prP (bnS .eql (.string a) (.string b)) K := by
  refine prP_eqlS ?_
  have : (a.toList == b.toList) = decide (a = b) := by
    rw [Bool.eq_iff_iff, beq_iff_eq, decide_eq_true_eq]; exact ⟨BA_ext, fun h => by rw [h]⟩
  rw [this]; exact h
theorem prP_neSd {a b : ByteArray} {K : Value → Prop} (h : K (.bool (decide (a ≠ b)))) : prP (bnS .neq (.string a) (.string b)) K := by
  refine prP_neqS ?_
  have : (!(a.toList == b.toList)) = decide (a ≠ b) := by
    rw [Bool.eq_iff_iff, Bool.not_eq_true', beq_eq_false_iff_ne, decide_eq_true_eq]
    exact ⟨fun h1 h2 => h1 (by rw [h2]), fun h1 h2 => h1 (BA_ext h2)⟩
  rw [this]; exact h
theorem prP_eqB {a b : Bool} {K : Value → Prop} (h : K (.bool (decide (a = b)))) : prP (bnB .eql (.bool a) (.bool b)) K := prP_some (v := .bool (a == b)) rfl (by
  have : (a == b) = decide (a = b) := by cases a <;> cases b <;> rfl
  rw [this]; exact h)
theorem prP_neB {a b : Bool} {K : Value → Prop} (h : K (.bool (decide (a ≠ b)))) : prP (bnB .neq (.bool a) (.bool b)) K := prP_some (v := .bool !(a == b)) rfl (by
  have : (!(a == b)) = decide (a ≠ b) := by cases a <;> cases b <;> rfl
  rw [this]; exact h)
theorem cndP_on {b : Bool} {p q : Prop} (hb : b = true) (h : p) : cndP (.bool b) p q := .inl ⟨by rw [hb], h⟩
theorem cndP_off {b : Bool} {p q : Prop} (hb : b = false) (h : q) : cndP (.bool b) p q := .inr ⟨by rw [hb], h⟩
theorem cndP_yes {c : Prop} [Decidable c] {p q : Prop} (hc : c) (h : p) : cndP (.bool (decide c)) p q := cndP_on (decide_eq_true hc) h
theorem cndP_no {c : Prop} [Decidable c] {p q : Prop} (hc : ¬ c) (h : q) : cndP (.bool (decide c)) p q := cndP_off (decide_eq_false hc) h
theorem gE_x {b : Bool} {q : Prop} (h : q) : gE (.bool b) q := ⟨rfl, h⟩
theorem gE_u {q : Prop} (h : q) : gE undef q := ⟨rfl, h⟩
theorem gP_on {w a : Bool} {m : (Value → Prop) → Prop} {K : Value → Prop} (ha : a = w) (h : m K) : gP (.bool a) w m K := .inl ⟨by rw [ha], h⟩
theorem gP_off {w a : Bool} {m : (Value → Prop) → Prop} {K : Value → Prop} (ha : a = !w) (h : K undef) : gP (.bool a) w m K := .inr ⟨.inl (by rw [ha]), h⟩
theorem gP_offt {a : Bool} {m : (Value → Prop) → Prop} {K : Value → Prop} (ha : a = false) (h : K undef) : gP (.bool a) true m K := gP_off ha h
theorem gP_offf {a : Bool} {m : (Value → Prop) → Prop} {K : Value → Prop} (ha : a = true) (h : K undef) : gP (.bool a) false m K := gP_off ha h
theorem gP_TT {m : (Value → Prop) → Prop} {K : Value → Prop} (h : m K) : gP (.bool true) true m K := gP_on rfl h
theorem gP_FF {m : (Value → Prop) → Prop} {K : Value → Prop} (h : m K) : gP (.bool false) false m K := gP_on rfl h
theorem gP_TF {m : (Value → Prop) → Prop} {K : Value → Prop} (h : K undef) : gP (.bool true) false m K := gP_off rfl h
theorem gP_FT {m : (Value → Prop) → Prop} {K : Value → Prop} (h : K undef) : gP (.bool false) true m K := gP_off rfl h
theorem gP_u {w : Bool} {m : (Value → Prop) → Prop} {K : Value → Prop} (h : K undef) : gP undef w m K := .inr ⟨.inr rfl, h⟩
theorem gP_ct {a : Bool} {m : (Value → Prop) → Prop} {K : Value → Prop} (h1 : a = true → m K) (h2 : a = false → K undef) : gP (.bool a) true m K := by
  cases a
  · exact gP_off rfl (h2 rfl)
  · exact gP_on rfl (h1 rfl)
theorem gP_cf {a : Bool} {m : (Value → Prop) → Prop} {K : Value → Prop} (h1 : a = false → m K) (h2 : a = true → K undef) : gP (.bool a) false m K := by
  cases a
  · exact gP_on rfl (h1 rfl)
  · exact gP_off rfl (h2 rfl)
theorem gP_dt {c : Prop} [Decidable c] {m : (Value → Prop) → Prop} {K : Value → Prop} (h1 : c → m K) (h2 : ¬ c → K undef) : gP (.bool (decide c)) true m K :=
  gP_ct (fun h => h1 (of_decide_eq_true h)) fun h => h2 (of_decide_eq_false h)
theorem gP_df {c : Prop} [Decidable c] {m : (Value → Prop) → Prop} {K : Value → Prop} (h1 : ¬ c → m K) (h2 : c → K undef) : gP (.bool (decide c)) false m K :=
  gP_cf (fun h => h1 (of_decide_eq_false h)) fun h => h2 (of_decide_eq_true h)
theorem gP_yt {c : Prop} [Decidable c] {m : (Value → Prop) → Prop} {K : Value → Prop} (hc : c) (h : m K) : gP (.bool (decide c)) true m K := gP_on (decide_eq_true hc) h
theorem gP_nt {c : Prop} [Decidable c] {m : (Value → Prop) → Prop} {K : Value → Prop} (hc : ¬ c) (h : K undef) : gP (.bool (decide c)) true m K := gP_off (decide_eq_false hc) h
theorem gP_yf {c : Prop} [Decidable c] {m : (Value → Prop) → Prop} {K : Value → Prop} (hc : c) (h : K undef) : gP (.bool (decide c)) false m K := gP_off (decide_eq_true hc) h
theorem gP_nf {c : Prop} [Decidable c] {m : (Value → Prop) → Prop} {K : Value → Prop} (hc : ¬ c) (h : m K) : gP (.bool (decide c)) false m K := gP_on (decide_eq_false hc) h
theorem pk_y {c : Prop} [Decidable c] {a b : Value} {K : Value → Prop} (hc : c) (hp : plain a = true) (h : K a) : prP (pk (.bool (decide c)) a b) K := by rw [decide_eq_true hc]; exact prP_some hp h
theorem pk_n {c : Prop} [Decidable c] {a b : Value} {K : Value → Prop} (hc : ¬ c) (hp : plain b = true) (h : K b) : prP (pk (.bool (decide c)) a b) K := by rw [decide_eq_false hc]; exact prP_some hp h
theorem pk_t {x : Bool} {a b : Value} {K : Value → Prop} (hc : x = true) (hp : plain a = true) (h : K a) : prP (pk (.bool x) a b) K := by rw [hc]; exact prP_some hp h
theorem pk_f {x : Bool} {a b : Value} {K : Value → Prop} (hc : x = false) (hp : plain b = true) (h : K b) : prP (pk (.bool x) a b) K := by rw [hc]; exact prP_some hp h
theorem pk_sd {c : Prop} [Decidable c] {a b : Value} {K : Value → Prop} (hp : plain a = true) (hq : plain b = true) (h1 : c → K a) (h2 : ¬ c → K b) : prP (pk (.bool (decide c)) a b) K := by
  by_cases h : c
  · exact pk_y h hp (h1 h)
  · exact pk_n h hq (h2 h)
theorem pk_sb {c : Bool} {a b : Value} {K : Value → Prop} (hp : plain a = true) (hq : plain b = true) (h1 : c = true → K a) (h2 : c = false → K b) : prP (pk (.bool c) a b) K := by
  cases h : c
  · exact pk_f rfl hq (h2 h)
  · exact pk_t rfl hp (h1 h)
theorem cndP_T {p q : Prop} (h : p) : cndP (.bool true) p q := .inl ⟨rfl, h⟩
theorem cndP_F {p q : Prop} (h : q) : cndP (.bool false) p q := .inr ⟨rfl, h⟩
theorem pk_T {a b : Value} {K : Value → Prop} (hp : plain a = true) (h : K a) : prP (pk (.bool true) a b) K := prP_some hp h
theorem pk_F {a b : Value} {K : Value → Prop} (hp : plain b = true) (h : K b) : prP (pk (.bool false) a b) K := prP_some hp h
theorem nx_0 {a : Value} {l : List Value} : nx (a :: l) 0 = a := rfl
theorem nx_1 {a b : Value} {l : List Value} : nx (a :: b :: l) 1 = b := rfl
theorem nx_2 {a b c : Value} {l : List Value} : nx (a :: b :: c :: l) 2 = c := rfl
theorem nx_3 {a b c d : Value} {l : List Value} : nx (a :: b :: c :: d :: l) 3 = d := rfl
theorem nx_4 {a b c d e : Value} {l : List Value} : nx (a :: b :: c :: d :: e :: l) 4 = e := rfl
theorem nx_5 {a b c d e f : Value} {l : List Value} : nx (a :: b :: c :: d :: e :: f :: l) 5 = f := rfl
theorem nx_6 {a b c d e f g : Value} {l : List Value} : nx (a :: b :: c :: d :: e :: f :: g :: l) 6 = g := rfl
theorem nxc_0 {a : List T} {l : List (List T)} : nxc (a :: l) 0 = a := rfl
theorem nxc_1 {a b : List T} {l : List (List T)} : nxc (a :: b :: l) 1 = b := rfl
theorem nxc_2 {a b c : List T} {l : List (List T)} : nxc (a :: b :: c :: l) 2 = c := rfl
theorem nxc_3 {a b c d : List T} {l : List (List T)} : nxc (a :: b :: c :: d :: l) 3 = d := rfl
theorem nxc_4 {a b c d e : List T} {l : List (List T)} : nxc (a :: b :: c :: d :: e :: l) 4 = e := rfl
theorem nxc_5 {a b c d e f : List T} {l : List (List T)} : nxc (a :: b :: c :: d :: e :: f :: l) 5 = f := rfl
theorem cnt1_1 {a : T} : cnt 1 [a] = 1 := rfl
theorem cnt1_0 : cnt 1 [] = 0 := rfl
theorem cnt2_1 {a b : T} : cnt 2 [a, b] = 1 := by simp [cnt]
theorem cnt3_1 {a b c : T} : cnt 3 [a, b, c] = 1 := by simp [cnt]
theorem cnt5_1 {a b c d e : T} : cnt 5 [a, b, c, d, e] = 1 := by simp [cnt]
theorem cnt6_1 {a b c d e f : T} : cnt 6 [a, b, c, d, e, f] = 1 := by simp [cnt]
theorem cnt8_1 {a b c d e f g h : T} : cnt 8 [a, b, c, d, e, f, g, h] = 1 := by simp [cnt]
/-! ### Places and parts -/
theorem apW_p {c : List T} {n m b : Nat} {q : Prop} (hf : flat c = true) (hn : (n + m) * b ≤ 2 ^ 47) (h : q) : apW c true n m b q := ⟨fun _ => hf, hn, h⟩
theorem apW_n {c : List T} {n m b : Nat} {q : Prop} (hn : (n + m) * b ≤ 2 ^ 47) (h : q) : apW c false n m b q := ⟨fun hx => (by cases hx), hn, h⟩
theorem flat_tI (l : List Int) : flat (tI l) = true := by simp [flat, tI, isC]
theorem flat_tS (l : List ByteArray) : flat (tS l) = true := by simp [flat, tS, isC]
theorem ixW_c {n : Nat} {a : Int} {K : Value → Prop} (h0 : 0 ≤ a) (h1 : a < n) (h : K (iv a.toNat)) : ixW n (I a) K :=
  ⟨.i64, a.toNat, by rw [Int.ofNat_eq_natCast, Int.toNat_of_nonneg h0], by omega, h⟩
theorem joinP_k {f : J2} {g : J2 → Prop} (h : g f) : joinP f g := h
/-! ### Loops -/
theorem loopP_wf {α : Type} {F : J2 → J2} {xs0 : List Value} {cs0 : List (List T)} (xs : α → List Value) (cs : α → List (List T)) (μ : α → Nat) (P : α → Prop) (a : α) (hx : xs0 = xs a) (hc : cs0 = cs a) (hP : P a)
    (h : ∀ (R : J2) a, P a → (∀ b, P b → μ b < μ a → R (xs b) (cs b)) → F R (xs a) (cs a)) : loopP F xs0 cs0 := by
  subst hx; subst hc
  intro R hR
  have : ∀ k a, μ a < k → P a → R (xs a) (cs a) := by
    intro k
    induction k with
    | zero => intro a hk _; omega
    | succ k ih => intro a hk hp; exact hR _ _ (h R a hp fun b hb hlt => ih b (by omega) hb)
  exact this _ a (Nat.lt_succ_self _) hP
/-! ### Rows of structs -/
/-- A row of elements as trees. -/
def tR {α : Type} (f : α → List T) (l : List α) : List T := l.flatMap f
class Rw {α : Type} (f : α → List T) (e : outParam Nat) : Prop where
  pos : 1 < e
  len : ∀ x, (f x).length = e
section
variable {α : Type} {f : α → List T} {e : Nat}
theorem tR_nil : tR f [] = [] := rfl
theorem tR_cons (x : α) (l : List α) : tR f (x :: l) = f x ++ tR f l := rfl
theorem tR_app (l m : List α) : tR f (l ++ m) = tR f l ++ tR f m := by simp [tR]
theorem tR_len [hr : Rw f e] (l : List α) : (tR f l).length = l.length * e := by
  induction l with
  | nil => simp [tR]
  | cons x l ih => rw [tR_cons, List.length_append, ih, hr.len, List.length_cons, Nat.add_mul]; omega
theorem cnt_tR [hr : Rw f e] (l : List α) : cnt e (tR f l) = l.length := by
  have hp := hr.pos
  have : cnt e (tR f l) = (tR f l).length / e := by
    match e, hp with
    | k + 2, _ => rfl
  rw [this, tR_len, Nat.mul_div_cancel _ (by omega)]
theorem tR_cell [hr : Rw f e] : ∀ {l : List α} {i : Nat} (hi : i < l.length) {c : Nat}, c < e → (tR f l)[i * e + c]? = (f l[i])[c]?
  | x :: l, 0, hi, c, hc => by
    rw [tR_cons, Nat.zero_mul, Nat.zero_add, List.getElem?_append_left (by rw [hr.len]; exact hc)]; rfl
  | x :: l, i + 1, hi, c, hc => by
    have h1 : i < l.length := by simpa using hi
    rw [tR_cons, List.getElem?_append_right (by rw [hr.len, Nat.add_mul]; omega), hr.len]
    have : (i + 1) * e + c - e = i * e + c := by rw [Nat.add_mul]; omega
    rw [this, tR_cell h1 hc]; rfl
theorem tR_drop [hr : Rw f e] : ∀ (l : List α) (i : Nat), (tR f l).drop (i * e) = tR f (l.drop i)
  | l, 0 => by simp
  | [], i + 1 => by simp [tR]
  | x :: l, i + 1 => by
    rw [tR_cons, List.drop_succ_cons, ← tR_drop l i]
    have : (i + 1) * e = (f x).length + i * e := by rw [Nat.add_mul, hr.len]; omega
    rw [this, List.drop_append, List.drop_of_length_le (by omega)]
    simp
theorem tR_take [hr : Rw f e] : ∀ (l : List α) (i : Nat), (tR f l).take (i * e) = tR f (l.take i)
  | l, 0 => by simp [tR]
  | [], i + 1 => by simp [tR]
  | x :: l, i + 1 => by
    rw [tR_cons, List.take_succ_cons, tR_cons, ← tR_take l i]
    have : (i + 1) * e = (f x).length + i * e := by rw [Nat.add_mul, hr.len]; omega
    rw [this, List.take_append, List.take_of_length_le (by omega)]
    simp
theorem tR_sub [hr : Rw f e] {l : List α} {i : Nat} (hi : i < l.length) : ((tR f l).drop (i * e)).take e = f l[i] := by
  have h1 := tR_take (f := f) (l.drop i) 1
  rw [Nat.one_mul] at h1
  rw [tR_drop, h1, List.drop_eq_getElem_cons hi, List.take_succ_cons, List.take_zero, tR_cons, tR_nil, List.append_nil]
theorem tR_put [hr : Rw f e] {l : List α} {i : Nat} (hi : i < l.length) (y : α) : lput (tR f l) (i * e) (f y) = tR f (l.set i y) := by
  have h1 : i * e + e = (i + 1) * e := by rw [Nat.add_mul]; omega
  rw [lput, hr.len, h1, tR_take, tR_drop, List.set_eq_take_append_cons_drop, if_pos hi, tR_app, tR_cons]
theorem tR_set [hr : Rw f e] {l : List α} {i : Nat} (hi : i < l.length) {c : Nat} (hc : c < e) {t : T} {y : α} (hy : f y = (f l[i]).set c t) : (tR f l).set (i * e + c) t = tR f (l.set i y) := by
  rw [← tR_put (f := f) hi y, hy, lput, List.length_set, hr.len]
  have h0 : tR f l = (tR f l).take (i * e) ++ (f l[i] ++ (tR f l).drop (i * e + e)) := by
    rw [← tR_sub (f := f) hi, ← List.drop_drop, List.take_append_drop, List.take_append_drop]
  have h1 : ((tR f l).take (i * e)).length = i * e := by
    rw [tR_take, tR_len, List.length_take]; congr 1; omega
  conv => lhs; rw [h0]
  rw [List.set_append_right _ _ (by rw [h1]; omega), h1, Nat.add_sub_cancel_left, List.set_append_left _ _ (by rw [hr.len]; exact hc)]
theorem lput_one {ds : List T} {off : Nat} {t : T} (h : off < ds.length) : lput ds off [t] = ds.set off t := by
  rw [lput, List.length_singleton, List.set_eq_take_append_cons_drop, if_pos h]; rfl
theorem ldc_tR [hr : Rw f e] {l : List α} {i : Nat} (hi : i < l.length) {c : Nat} {v : Value} {K : Value → Prop} (hc : c < e) (hv : (f l[i])[c]? = some (.c v)) (h : K v) : ldc (tR f l) [] (natOf (iv i) * e + c) K := by
  rw [natOf_iv]; exact ⟨v, by simp only [cell, node, Option.bind_some]; rw [tR_cell hi hc]; exact hv, h⟩
theorem ldc_tR0 [hr : Rw f e] {l : List α} {i : Nat} (hi : i < l.length) {v : Value} {K : Value → Prop} (hv : (f l[i])[0]? = some (.c v)) (h : K v) : ldc (tR f l) [] (natOf (iv i) * e) K :=
  ldc_tR hi (c := 0) (by have := hr.pos; omega) hv h
theorem ldl_tR [hr : Rw f e] {l : List α} {i : Nat} (hi : i < l.length) {c e' : Nat} {ds : List T} {K : Value → Prop} (hc : c < e) (hv : (f l[i])[c]? = some (.l e' ds)) (h : K (iv 0)) : ldl (tR f l) [] (natOf (iv i) * e + c) e' K := by
  rw [natOf_iv]; exact ⟨⟨ds, by simp only [cell, node, Option.bind_some]; rw [tR_cell hi hc]; exact hv⟩, h⟩
theorem ldg_tR [hr : Rw f e] {l : List α} {i : Nat} (hi : i < l.length) {ks : List CK} {K : List T → Prop} (hn : ks.length = e) (hk : ckOk ks (f l[i]) = true) (h : K (f l[i])) : ldg (tR f l) [] (natOf (iv i) * e) ks K := by
  refine ⟨f l[i], ?_, hk, h⟩
  rw [natOf_iv, hn]; simp only [sub2, node]; exact tR_sub hi
theorem node_tR [hr : Rw f e] {l : List α} {i : Nat} (hi : i < l.length) {c e' : Nat} {ds : List T} {pre : List Nat} (hc : c < e) (hv : (f l[i])[c]? = some (.l e' ds)) : node (tR f l) ((natOf (iv i) * e + c) :: pre) = node ds pre := by
  rw [natOf_iv]; simp only [node, tR_cell hi hc, hv]
theorem subN_tR [hr : Rw f e] {l : List α} {i : Nat} (hi : i < l.length) {c e' : Nat} {ds : List T} (hc : c < e) (hv : (f l[i])[c]? = some (.l e' ds)) : subN (tR f l) [natOf (iv i) * e + c] = ds := by
  have h := node_tR hi hc hv (pre := [])
  simp only [subN, h]; rfl
theorem ldc_sub [hr : Rw f e] {l : List α} {i : Nat} (hi : i < l.length) {c e' off : Nat} {ds : List T} {K : Value → Prop} (hc : c < e) (hv : (f l[i])[c]? = some (.l e' ds)) (h : ldc ds [] off K) : ldc (tR f l) [natOf (iv i) * e + c] off K := by
  obtain ⟨v, h1, h2⟩ := h
  have h3 := node_tR hi hc hv (pre := [])
  refine ⟨v, ?_, h2⟩
  unfold cell at h1 ⊢
  rw [h3]; exact h1
theorem nput_tR [hr : Rw f e] {l : List α} {i : Nat} (hi : i < l.length) {c e' : Nat} {ds ds' : List T} {y : α} (hc : c < e) (hv : (f l[i])[c]? = some (.l e' ds)) (hy : f y = (f l[i]).set c (.l e' ds')) : nput (tR f l) [natOf (iv i) * e + c] ds' = tR f (l.set i y) := by
  rw [natOf_iv]
  simp only [nput, tR_cell hi hc, hv]
  exact tR_set hi hc hy
theorem stc_tR [hr : Rw f e] {l : List α} {i : Nat} (hi : i < l.length) {c : Nat} {v w : Value} {y : α} {K : List T → Prop} (hc : c < e) (hv : (f l[i])[c]? = some (.c w)) (hy : f y = (f l[i]).set c (.c v)) (h : K (tR f (l.set i y))) : stc (tR f l) [] (natOf (iv i) * e + c) v K := by
  rw [natOf_iv]
  have hlt : i * e + c < (tR f l).length := by
    rw [tR_len]
    have : (i + 1) * e ≤ l.length * e := Nat.mul_le_mul_right _ hi
    rw [Nat.add_mul] at this; omega
  refine ⟨⟨w, by simp only [cell, node, Option.bind_some]; rw [tR_cell hi hc]; exact hv⟩, ?_⟩
  have : cput (tR f l) [] (i * e + c) [.c v] = tR f (l.set i y) := by
    simp only [cput, node, nput]
    rw [lput_one hlt, tR_set hi hc hy]
  rw [this]; exact h
theorem stg_tR [hr : Rw f e] {l : List α} {i : Nat} (hi : i < l.length) {ts : List T} {y : α} {K : List T → Prop} (hy : ts = f y) (h : K (tR f (l.set i y))) : stg (tR f l) [] (natOf (iv i) * e) ts K := by
  subst hy
  rw [natOf_iv]
  refine ⟨⟨_, rfl, ?_⟩, ?_⟩
  · rw [hr.len, tR_len]
    have : (i + 1) * e ≤ l.length * e := Nat.mul_le_mul_right _ hi
    rw [Nat.add_mul] at this; omega
  · have : cput (tR f l) [] (i * e) (f y) = tR f (l.set i y) := by
      simp only [cput, node, nput]; exact tR_put hi y
    rw [this]; exact h
theorem stc_tRs [hr : Rw f e] {cur : List α} {i : Nat} (hi : i < cur.length) {y y' : α} {c : Nat} {v w : Value} {K : List T → Prop} (hc : c < e) (hv : (f y)[c]? = some (.c w)) (hy : f y' = (f y).set c (.c v)) (h : K (tR f (cur.set i y'))) : stc (tR f (cur.set i y)) [] (natOf (iv i) * e + c) v K :=
  stc_tR (l := cur.set i y) (by simpa using hi) (y := y') hc (by rw [List.getElem_set_self]; exact hv) (by rw [List.getElem_set_self]; exact hy) (by rw [List.set_set]; exact h)
theorem stc_tRs0 [hr : Rw f e] {cur : List α} {i : Nat} (hi : i < cur.length) {y y' : α} {v w : Value} {K : List T → Prop} (hv : (f y)[0]? = some (.c w)) (hy : f y' = (f y).set 0 (.c v)) (h : K (tR f (cur.set i y'))) : stc (tR f (cur.set i y)) [] (natOf (iv i) * e) v K :=
  stc_tRs hi (c := 0) (by have := hr.pos; omega) hv hy h
theorem subN_tRs [hr : Rw f e] {cur : List α} {i : Nat} (hi : i < cur.length) {y : α} {c e' : Nat} {ds : List T} (hc : c < e) (hv : (f y)[c]? = some (.l e' ds)) : subN (tR f (cur.set i y)) [natOf (iv i) * e + c] = ds :=
  subN_tR (l := cur.set i y) (by simpa using hi) hc (by rw [List.getElem_set_self]; exact hv)
theorem ldl_tRs [hr : Rw f e] {cur : List α} {i : Nat} (hi : i < cur.length) {y : α} {c e' : Nat} {ds : List T} {K : Value → Prop} (hc : c < e) (hv : (f y)[c]? = some (.l e' ds)) (h : K (iv 0)) : ldl (tR f (cur.set i y)) [] (natOf (iv i) * e + c) e' K :=
  ldl_tR (l := cur.set i y) (by simpa using hi) hc (by rw [List.getElem_set_self]; exact hv) h
theorem nput_tRs [hr : Rw f e] {cur : List α} {i : Nat} (hi : i < cur.length) {y y' : α} {c e' : Nat} {ds ds' : List T} (hc : c < e) (hv : (f y)[c]? = some (.l e' ds)) (hy : f y' = (f y).set c (.l e' ds')) : nput (tR f (cur.set i y)) [natOf (iv i) * e + c] ds' = tR f (cur.set i y') := by
  rw [nput_tR (l := cur.set i y) (by simpa using hi) (y := y') hc (by rw [List.getElem_set_self]; exact hv) (by rw [List.getElem_set_self]; exact hy), List.set_set]
theorem cnt_tRs [hr : Rw f e] {cur : List α} {i : Nat} {y : α} : cnt e (tR f (cur.set i y)) = cur.length := by rw [cnt_tR, List.length_set]
theorem tR_same {cur : List α} {i : Nat} (hi : i < cur.length) : tR f cur = tR f (cur.set i cur[i]) := by rw [List.set_getElem_self]
theorem repT_tR (n : Nat) (x : α) : repT n (f x) = tR f (List.replicate n x) := by
  simp only [repT, tR]
  induction n with
  | zero => rfl
  | succ n ih => rw [List.replicate_succ, List.replicate_succ, List.flatten_cons, List.flatMap_cons, ih]
end
theorem tI_snoc (l : List Int) (n : Int) : tI l ++ [T.c (I n)] = tI (l ++ [n]) := by simp [tI]
theorem tI_snocN (l : List Int) (n : Nat) : tI l ++ [T.c (iv n)] = tI (l ++ [(n : Int)]) := tI_snoc l n
end Go.Proofs.Ytnhicpkhkaihoaa.Eng
/- From the machine's arguments to trees, and from the pure call to the machine's. -/
namespace Go.Proofs.Ytnhicpkhkaihoaa.Eng
open Go Go.RowKit
set_option linter.unusedVariables false
/-- The kind d read as trees. -/
def Rdt {α : Type} (d : Kind α) (t : α → List T) : Prop := (∀ x, (t x).length = d.sz) ∧ ∀ s x cs, d.E s x cs → ∃ F, TRs s false (t x) cs F
theorem rdt_int : Rdt (kInt .i64) fun n => [.c (.int .i64 n)] := ⟨fun _ => rfl, fun s x cs h => ⟨[], by subst h; simp [TRs, TR, plain]⟩⟩
theorem rdt_bool : Rdt kBool fun b => [.c (.bool b)] := ⟨fun _ => rfl, fun s x cs h => ⟨[], by subst h; simp [TRs, TR, plain]⟩⟩
theorem rdt_str : Rdt kStr fun b => [.c (.string b)] := ⟨fun _ => rfl, fun s x cs h => ⟨[], by subst h; simp [TRs, TR, plain]⟩⟩
theorem rdt_pair {α β : Type} {a : Kind α} {b : Kind β} {ta : α → List T} {tb : β → List T} (ha : Rdt a ta) (hb : Rdt b tb) : Rdt (kPair a b) fun p => ta p.1 ++ tb p.2 :=
  ⟨fun x => by simp [ha.1, hb.1, kPair], fun s x cs ⟨c, d, h, h1, h2⟩ => by
    obtain ⟨F1, g1⟩ := ha.2 s _ _ h1
    obtain ⟨F2, g2⟩ := hb.2 s _ _ h2
    exact ⟨F1 ++ F2, TRs_app.2 ⟨c, d, F1, F2, h, g1, g2, rfl⟩⟩⟩
theorem rdt_row {α : Type} {d : Kind α} {t : α → List T} (hd : Rdt d t) {s : St} : ∀ (xs : List α) (cells : List Value), cells.length = xs.length * d.sz → (∀ (i : Nat) x, xs[i]? = some x → d.E s x ((cells.drop (i * d.sz)).take d.sz)) → ∃ F, TRs s false (xs.flatMap t) cells F
  | [], cells, hl, _ => ⟨[], by
      have : cells = [] := List.length_eq_zero_iff.1 (by simpa using hl)
      subst this; simp [TRs]⟩
  | x :: xs, cells, hl, h => by
    have h0 := h 0 x rfl
    rw [Nat.zero_mul, List.drop_zero] at h0
    obtain ⟨F1, g1⟩ := hd.2 s x _ h0
    rw [List.length_cons, Nat.add_mul, Nat.one_mul] at hl
    obtain ⟨F2, g2⟩ := rdt_row hd xs (cells.drop d.sz) (by rw [List.length_drop]; omega) (fun i y hy => by
      have := h (i + 1) y (by simpa using hy)
      rwa [Nat.add_mul, Nat.one_mul, Nat.add_comm, ← List.drop_drop] at this)
    refine ⟨F1 ++ F2, ?_⟩
    rw [List.flatMap_cons]
    exact TRs_app.2 ⟨cells.take d.sz, cells.drop d.sz, F1, F2, (List.take_append_drop _ _).symm, g1, g2, rfl⟩
theorem flatMap_len {α : Type} {t : α → List T} {n : Nat} (h : ∀ x, (t x).length = n) : ∀ xs : List α, (xs.flatMap t).length = xs.length * n
  | [] => by simp
  | x :: xs => by rw [List.flatMap_cons, List.length_append, h, flatMap_len h xs, List.length_cons, Nat.add_mul]; omega
theorem rdt_sl {α : Type} {d : Kind α} {t : α → List T} {hsz : 0 < d.sz} (hd : Rdt d t) : Rdt (kSl d hsz) fun xs => [.l d.sz (xs.flatMap t)] :=
  ⟨fun _ => rfl, fun s xs cs ⟨v, h, cells, ⟨h1, h2⟩, h3⟩ => by
    subst h
    obtain ⟨F, hF⟩ := rdt_row hd xs cells h1 h3
    have hlen := flatMap_len hd.1 xs
    rcases h2 with ⟨rfl, h0⟩ | ⟨b, off, ob, rfl, g1, g2, g3⟩
    · have : xs = [] := List.length_eq_zero_iff.1 h0
      subst this
      exact ⟨[], TRs_one.2 ⟨nl, rfl, by simp [TR]⟩⟩
    · refine ⟨b :: F, TRs_one.2 ⟨_, rfl, TR_l.2 (.inr ⟨b, off, xs.length, rfl, hlen, ob, F, g1, fun h => (by cases h), by rw [hlen]; exact g2, ?_, rfl⟩)⟩⟩
      rw [hlen, g3]; exact hF⟩
/-- The pure call is the machine's call; behind it stands what stood. -/
theorem calls_of {C : Ctx} {ρ : Rho} {s : St} {f : FuncId} {g : Sg} {es args sv : List Value} {vs : List Value} {cs : List (List T)} {D : List Nat} (hr : Rel C ρ s C.w0) (ht : ∀ h, s.n ≤ h → ρ h = none) (ha : All2 (VR ρ) es args) (hp : ParR s g.ps es vs cs sv [] D) (hg : g.rs = [(0, [.v])])
    (h : cl2 C f g vs cs fun vs' _ => vs'.head? = some (.bool true)) : Calls C.P f args.toArray C.w0 fun e W' => e = .returned (.bool true) ∧ Below C.w0.heap.size C.w0 W' := by
  obtain ⟨v, s', M', vs', cs', ⟨hn, hgo⟩, _, hres, _, _, _, hk⟩ := h s es sv [] D hp List.nodup_nil (fun x hx => by simp at hx)
  refine Calls.mono (hgo ρ C.w0 args (fun x h1 h2 => ht x h1) hr ha) fun e W' he => ?_
  cases e with
  | returned u =>
    obtain ⟨ρ', _, hrel, hv⟩ := he
    obtain ⟨as', v1, v2, c1, c2, c3, M1, M2, M3, e1, e2, e3, e4, e5, hV, _, _⟩ := hres.ex
    rw [hg] at hV
    simp only [ResV, ResC] at hV
    obtain ⟨a, as2, us, w1, w2, d1, d2, N1, N2, rfl, rfl, rfl, ⟨u1, us', vs1, rfl, rfl, _, rfl, rfl, _, _⟩, ⟨rfl, rfl, _, _⟩, hu, _⟩ := hV
    subst e3
    simp only [List.cons_append, List.head?_cons, Option.some.injEq] at hk
    subst hk
    simp only [List.cons.injEq, and_true] at hu
    subst hu
    rw [e1] at hv
    have : u = .bool true := hv
    exact ⟨by rw [this], hrel.bel⟩
  | outgrown => exact he.elim
  | panicked x => exact he.elim
end Go.Proofs.Ytnhicpkhkaihoaa.Eng
/- The heap's objects as trees. -/
namespace Go.Proofs.Ytnhicpkhkaihoaa.Eng
open Go Go.RowKit
set_option linter.unusedVariables false
structure HObj where
  live : Bool
  gen : Int
  site : Int
  holds : Int
  roots : Int
  count : Int
  field : List Int
  purple : Bool
structure Wk where
  used : Bool
  target : Int
structure Op5 where
  kind : Int
  a : Int
  b : Int
  c : Int
  site : ByteArray
structure An where
  code : Int
  val : Int
  freed : List Int
structure Nd where
  live : Bool
  gen : Int
  site : Int
  holds : Int
  roots : Int
  field : List Int
structure Hp where
  objs : List HObj
  weaks : List Wk
  buffer : List Int
  sites : List ByteArray
def tO (o : HObj) : List T := [.c (.bool o.live), .c (I o.gen), .c (I o.site), .c (I o.holds), .c (I o.roots), .c (I o.count), .l 1 (tI o.field), .c (.bool o.purple)]
def tW (w : Wk) : List T := [.c (.bool w.used), .c (I w.target)]
def tP (o : Op5) : List T := [.c (I o.kind), .c (I o.a), .c (I o.b), .c (I o.c), .c (.string o.site)]
def tA (a : An) : List T := [.c (I a.code), .c (I a.val), .l 1 (tI a.freed)]
def tN (n : Nd) : List T := [.c (.bool n.live), .c (I n.gen), .c (I n.site), .c (I n.holds), .c (I n.roots), .l 1 (tI n.field)]
instance rwO : Rw tO 8 := ⟨by omega, fun _ => rfl⟩
instance rwW : Rw tW 2 := ⟨by omega, fun _ => rfl⟩
instance rwP : Rw tP 5 := ⟨by omega, fun _ => rfl⟩
instance rwA : Rw tA 3 := ⟨by omega, fun _ => rfl⟩
instance rwN : Rw tN 6 := ⟨by omega, fun _ => rfl⟩
theorem cnt_tO (l : List HObj) : cnt 8 (tR tO l) = l.length := cnt_tR l
theorem cnt_tW (l : List Wk) : cnt 2 (tR tW l) = l.length := cnt_tR l
theorem cnt_tP (l : List Op5) : cnt 5 (tR tP l) = l.length := cnt_tR l
theorem cnt_tA (l : List An) : cnt 3 (tR tA l) = l.length := cnt_tR l
theorem cnt_tN (l : List Nd) : cnt 6 (tR tN l) = l.length := cnt_tR l
theorem flat_tW (l : List Wk) : flat (tR tW l) = true := by
  simp only [flat, tR, List.all_flatMap, List.all_eq_true]; intro x _ t ht
  simp only [tW, List.mem_cons, List.not_mem_nil, or_false] at ht
  rcases ht with rfl | rfl <;> rfl
theorem flat_tP (l : List Op5) : flat (tR tP l) = true := by
  simp only [flat, tR, List.all_flatMap, List.all_eq_true]; intro x _ t ht
  simp only [tP, List.mem_cons, List.not_mem_nil, or_false] at ht
  rcases ht with rfl | rfl | rfl | rfl | rfl <;> rfl
/-! ### Writing to an object -/
section
variable {l : List HObj} {i : Nat} {K : List T → Prop}
theorem subO_field (hi : i < l.length) : subN (tR tO l) [natOf (iv i) * 8 + 6] = tI l[i].field := subN_tR hi (by decide) rfl
end
/-! ### What stands at a place -/
def gI (l : List Int) (i : Nat) : Int := l.getD i 0
def gS (l : List ByteArray) (i : Nat) : ByteArray := l.getD i ⟨#[]⟩
theorem gI_eq {l : List Int} {i : Nat} (h : i < l.length) : l[i] = gI l i := by simp [gI, h]
theorem gS_eq {l : List ByteArray} {i : Nat} (h : i < l.length) : l[i] = gS l i := by simp [gS, h]
theorem ldI {l : List Int} {i : Nat} {K : Value → Prop} (hi : i < l.length) (h : K (I (gI l i))) : ldc (tI l) [] (natOf (iv i) * 1) K := by rw [← gI_eq hi] at h; exact ldc_tI hi h
theorem ldS {l : List ByteArray} {i : Nat} {K : Value → Prop} (hi : i < l.length) (h : K (.string (gS l i))) : ldc (tS l) [] (natOf (iv i) * 1) K := by rw [← gS_eq hi] at h; exact ldc_tS hi h
def ob (l : List HObj) (i : Nat) : HObj := l.getD i ⟨false, 0, 0, 0, 0, 0, [], false⟩
theorem ob_eq {l : List HObj} {i : Nat} (h : i < l.length) : l[i] = ob l i := by simp [ob, h]
theorem ldg_ob {l : List HObj} {i : Nat} {K : List T → Prop} (hi : i < l.length) (h : K (tO (ob l i))) : ldg (tR tO l) [] (natOf (iv i) * 8) [.c, .c, .c, .c, .c, .c, .l 1, .c] K := by rw [← ob_eq hi] at h; exact ldg_tR hi rfl rfl h
theorem ldc_ob {l : List HObj} {i c : Nat} {v : Value} {K : Value → Prop} (hi : i < l.length) (hc : c < 8) (hv : (tO (ob l i))[c]? = some (.c v)) (h : K v) : ldc (tR tO l) [] (natOf (iv i) * 8 + c) K := by rw [← ob_eq hi] at hv; exact ldc_tR hi hc hv h
theorem ldc_ob0 {l : List HObj} {i : Nat} {v : Value} {K : Value → Prop} (hi : i < l.length) (hv : (tO (ob l i))[0]? = some (.c v)) (h : K v) : ldc (tR tO l) [] (natOf (iv i) * 8) K := by rw [← ob_eq hi] at hv; exact ldc_tR0 hi hv h
def wk (l : List Wk) (i : Nat) : Wk := l.getD i ⟨false, 0⟩
theorem wk_eq {l : List Wk} {i : Nat} (h : i < l.length) : l[i] = wk l i := by simp [wk, h]
theorem ldg_wk {l : List Wk} {i : Nat} {K : List T → Prop} (hi : i < l.length) (h : K (tW (wk l i))) : ldg (tR tW l) [] (natOf (iv i) * 2) [.c, .c] K := by rw [← wk_eq hi] at h; exact ldg_tR hi rfl rfl h
theorem ldc_wk {l : List Wk} {i c : Nat} {v : Value} {K : Value → Prop} (hi : i < l.length) (hc : c < 2) (hv : (tW (wk l i))[c]? = some (.c v)) (h : K v) : ldc (tR tW l) [] (natOf (iv i) * 2 + c) K := by rw [← wk_eq hi] at hv; exact ldc_tR hi hc hv h
theorem ldc_wk0 {l : List Wk} {i : Nat} {v : Value} {K : Value → Prop} (hi : i < l.length) (hv : (tW (wk l i))[0]? = some (.c v)) (h : K v) : ldc (tR tW l) [] (natOf (iv i) * 2) K := by rw [← wk_eq hi] at hv; exact ldc_tR0 hi hv h
def po (l : List Op5) (i : Nat) : Op5 := l.getD i ⟨0, 0, 0, 0, ⟨#[]⟩⟩
theorem po_eq {l : List Op5} {i : Nat} (h : i < l.length) : l[i] = po l i := by simp [po, h]
theorem ldg_po {l : List Op5} {i : Nat} {K : List T → Prop} (hi : i < l.length) (h : K (tP (po l i))) : ldg (tR tP l) [] (natOf (iv i) * 5) [.c, .c, .c, .c, .c] K := by rw [← po_eq hi] at h; exact ldg_tR hi rfl rfl h
theorem ldc_po {l : List Op5} {i c : Nat} {v : Value} {K : Value → Prop} (hi : i < l.length) (hc : c < 5) (hv : (tP (po l i))[c]? = some (.c v)) (h : K v) : ldc (tR tP l) [] (natOf (iv i) * 5 + c) K := by rw [← po_eq hi] at hv; exact ldc_tR hi hc hv h
theorem ldc_po0 {l : List Op5} {i : Nat} {v : Value} {K : Value → Prop} (hi : i < l.length) (hv : (tP (po l i))[0]? = some (.c v)) (h : K v) : ldc (tR tP l) [] (natOf (iv i) * 5) K := by rw [← po_eq hi] at hv; exact ldc_tR0 hi hv h
def an (l : List An) (i : Nat) : An := l.getD i ⟨0, 0, []⟩
theorem an_eq {l : List An} {i : Nat} (h : i < l.length) : l[i] = an l i := by simp [an, h]
theorem ldg_an {l : List An} {i : Nat} {K : List T → Prop} (hi : i < l.length) (h : K (tA (an l i))) : ldg (tR tA l) [] (natOf (iv i) * 3) [.c, .c, .l 1] K := by rw [← an_eq hi] at h; exact ldg_tR hi rfl rfl h
theorem ldc_an {l : List An} {i c : Nat} {v : Value} {K : Value → Prop} (hi : i < l.length) (hc : c < 3) (hv : (tA (an l i))[c]? = some (.c v)) (h : K v) : ldc (tR tA l) [] (natOf (iv i) * 3 + c) K := by rw [← an_eq hi] at hv; exact ldc_tR hi hc hv h
theorem ldc_an0 {l : List An} {i : Nat} {v : Value} {K : Value → Prop} (hi : i < l.length) (hv : (tA (an l i))[0]? = some (.c v)) (h : K v) : ldc (tR tA l) [] (natOf (iv i) * 3) K := by rw [← an_eq hi] at hv; exact ldc_tR0 hi hv h
def nd (l : List Nd) (i : Nat) : Nd := l.getD i ⟨false, 0, 0, 0, 0, []⟩
theorem nd_eq {l : List Nd} {i : Nat} (h : i < l.length) : l[i] = nd l i := by simp [nd, h]
theorem ldg_nd {l : List Nd} {i : Nat} {K : List T → Prop} (hi : i < l.length) (h : K (tN (nd l i))) : ldg (tR tN l) [] (natOf (iv i) * 6) [.c, .c, .c, .c, .c, .l 1] K := by rw [← nd_eq hi] at h; exact ldg_tR hi rfl rfl h
theorem ldc_nd {l : List Nd} {i c : Nat} {v : Value} {K : Value → Prop} (hi : i < l.length) (hc : c < 6) (hv : (tN (nd l i))[c]? = some (.c v)) (h : K v) : ldc (tR tN l) [] (natOf (iv i) * 6 + c) K := by rw [← nd_eq hi] at hv; exact ldc_tR hi hc hv h
theorem ldc_nd0 {l : List Nd} {i : Nat} {v : Value} {K : Value → Prop} (hi : i < l.length) (hv : (tN (nd l i))[0]? = some (.c v)) (h : K v) : ldc (tR tN l) [] (natOf (iv i) * 6) K := by rw [← nd_eq hi] at hv; exact ldc_tR0 hi hv h
theorem ldf_ob {l : List HObj} {i j : Nat} {K : Value → Prop} (hi : i < l.length) (hj : j < (ob l i).field.length) (h : K (I (gI (ob l i).field j))) : ldc (tR tO l) [natOf (iv i) * 8 + 6] (natOf (iv j) * 1) K := by
  rw [← gI_eq hj] at h
  have e := ob_eq hi
  exact ldc_sub hi (by decide) (ds := tI (ob l i).field) (by rw [e]; rfl) (ldc_tI hj h)
theorem ldl_ob {l : List HObj} {i : Nat} {K : Value → Prop} (hi : i < l.length) (h : K (iv 0)) : ldl (tR tO l) [] (natOf (iv i) * 8 + 6) 1 K := ldl_tR hi (by decide) rfl h
theorem ldf_nd {l : List Nd} {i j : Nat} {K : Value → Prop} (hi : i < l.length) (hj : j < (nd l i).field.length) (h : K (I (gI (nd l i).field j))) : ldc (tR tN l) [natOf (iv i) * 6 + 5] (natOf (iv j) * 1) K := by
  rw [← gI_eq hj] at h
  have e := nd_eq hi
  exact ldc_sub hi (by decide) (ds := tI (nd l i).field) (by rw [e]; rfl) (ldc_tI hj h)
theorem ldl_nd {l : List Nd} {i : Nat} {K : Value → Prop} (hi : i < l.length) (h : K (iv 0)) : ldl (tR tN l) [] (natOf (iv i) * 6 + 5) 1 K := ldl_tR hi (by decide) rfl h
theorem ldf_an {l : List An} {i j : Nat} {K : Value → Prop} (hi : i < l.length) (hj : j < (an l i).freed.length) (h : K (I (gI (an l i).freed j))) : ldc (tR tA l) [natOf (iv i) * 3 + 2] (natOf (iv j) * 1) K := by
  rw [← gI_eq hj] at h
  have e := an_eq hi
  exact ldc_sub hi (by decide) (ds := tI (an l i).freed) (by rw [e]; rfl) (ldc_tI hj h)
theorem ldl_an {l : List An} {i : Nat} {K : Value → Prop} (hi : i < l.length) (h : K (iv 0)) : ldl (tR tA l) [] (natOf (iv i) * 3 + 2) 1 K := ldl_tR hi (by decide) rfl h
end Go.Proofs.Ytnhicpkhkaihoaa.Eng
