/- Numbers, texts and frames, as they are read. -/
import Derived.Test.YtnhicpkhkaihoaaCeWireB
namespace Go.Proofs.Ytnhicpkhkaihoaa.P
open Go Go.Proofs.Ytnhicpkhkaihoaa Go.Proofs.Ytnhicpkhkaihoaa.Eng
set_option maxHeartbeats 4000000
set_option linter.unusedVariables false
set_option linter.unusedSimpArgs false
attribute [local irreducible] prP gP gE gF cndP ixW ldc ldg ldl stc stg scW mkW apW loopP cl2 joinP pre2 selW
variable {w0 : World}
/-! ### Parts of texts -/
theorem sc_ft {s : ByteArray} {a b : Nat} {K : Value → Prop} (h1 : a ≤ b) (h2 : b ≤ s.size) (h : K (.string (s.extract a b))) : prP (scS (.string s) (some (iv a)) (some (iv b))) K := by
  have : scS (.string s) (some (iv a)) (some (iv b)) = some (.string (s.extract a b)) := by
    simp only [scS, bnd, iv, Int.natCast_nonneg, if_true, Option.bind_some, Int.toNat_natCast]
    rw [if_pos ⟨h1, h2⟩]
  rw [this]; exact prP_some rfl h
theorem sc_t {s : ByteArray} {b : Nat} {K : Value → Prop} (h2 : b ≤ s.size) (h : K (.string (s.extract 0 b))) : prP (scS (.string s) none (some (iv b))) K := by
  have : scS (.string s) none (some (iv b)) = some (.string (s.extract 0 b)) := by
    simp only [scS, bnd, iv, Int.natCast_nonneg, if_true, Option.bind_some, Int.toNat_natCast]
    rw [if_pos ⟨Nat.zero_le _, h2⟩]
  rw [this]; exact prP_some rfl h
/-- What stands behind the first a bytes. -/
def dr (s : ByteArray) (a : Nat) : ByteArray := s.extract a s.size
theorem dr_size (s : ByteArray) (a : Nat) : (dr s a).size = s.size - a := by simp [dr]
theorem sc_f {s : ByteArray} {a : Nat} {K : Value → Prop} (h2 : a ≤ s.size) (h : K (.string (dr s a))) : prP (scS (.string s) (some (iv a)) none) K := by
  have : scS (.string s) (some (iv a)) none = some (.string (dr s a)) := by
    simp only [scS, bnd, iv, Int.natCast_nonneg, if_true, Option.bind_some, Int.toNat_natCast]
    rw [if_pos ⟨h2, Nat.le_refl _⟩]; rfl
  rw [this]; exact prP_some rfl h
theorem sc_fI {s : ByteArray} {a : Int} {K : Value → Prop} (h1 : 0 ≤ a) (h2 : a ≤ s.size) (h : K (.string (dr s a.toNat))) : prP (scS (.string s) (some (I a)) none) K := by
  obtain ⟨n, rfl⟩ : ∃ n : Nat, a = n := ⟨a.toNat, by omega⟩
  exact sc_f (by omega) h
theorem sc_tI {s : ByteArray} {b : Int} {K : Value → Prop} (h1 : 0 ≤ b) (h2 : b ≤ s.size) (h : K (.string (s.extract 0 b.toNat))) : prP (scS (.string s) none (some (I b))) K := by
  obtain ⟨n, rfl⟩ : ∃ n : Nat, b = n := ⟨b.toNat, by omega⟩
  exact sc_t (by omega) h
theorem sc_ftI {s : ByteArray} {a b : Int} {K : Value → Prop} (h0 : 0 ≤ a) (h1 : a ≤ b) (h2 : b ≤ s.size) (h : K (.string (s.extract a.toNat b.toNat))) : prP (scS (.string s) (some (I a)) (some (I b))) K := by
  obtain ⟨n, rfl⟩ : ∃ n : Nat, a = n := ⟨a.toNat, by omega⟩
  obtain ⟨m, rfl⟩ : ∃ n : Nat, b = n := ⟨b.toNat, by omega⟩
  exact sc_ft (by omega) (by omega) h
theorem dr_dr (s : ByteArray) (a b : Nat) (h : a + b ≤ s.size) : dr (dr s a) b = dr s (a + b) := by
  apply ByteArray.ext
  simp only [dr, ByteArray.data_extract, ByteArray.size_extract]
  rw [Array.extract_extract]
  congr 1
  omega
theorem dr_0 (s : ByteArray) : dr s 0 = s := by
  apply ByteArray.ext
  simp only [dr, ByteArray.data_extract]
  exact Array.extract_size
/-! ### Numbers in sevens of bits -/
def bys (s : ByteArray) (k : Nat) : List Nat := (List.range k).map (by_ s)
def dec7 : List Nat → Nat
  | [] => 0
  | x :: r => x % 128 + 128 * dec7 r
def canB : Bool → List Nat → Bool
  | _, [] => false
  | f, [x] => decide (x < 128) && (f || decide (x ≠ 0))
  | _, x :: y :: r => decide (x ≥ 128) && canB false (y :: r)
theorem dec7_pos : ∀ {L : List Nat}, canB false L = true → 1 ≤ dec7 L
  | [], h => by simp [canB] at h
  | [x], h => by simp [canB] at h; simp only [dec7]; omega
  | x :: y :: r, h => by
    simp only [canB, Bool.and_eq_true] at h
    have := dec7_pos h.2
    simp only [dec7] at this ⊢; omega
theorem vd_dec : ∀ {L : List Nat} {f : Bool} {k : Nat}, (∀ x ∈ L, x < 256) → canB f L = true → L.length ≤ k + 1 → vd k (dec7 L) = L
  | [], f, k, _, h, _ => by simp [canB] at h
  | [x], f, k, _, h, _ => by
    simp only [canB, Bool.and_eq_true, decide_eq_true_eq] at h
    have h1 : x % 128 + 128 * 0 = x := by omega
    simp only [dec7, h1]
    cases k with
    | zero => rfl
    | succ k => rw [vd, if_neg (by omega)]
  | x :: y :: r, f, 0, _, h, hl => by simp at hl
  | x :: y :: r, f, k + 1, hb, h, hl => by
    simp only [canB, Bool.and_eq_true, decide_eq_true_eq] at h
    have h1 := dec7_pos h.2
    have hx := hb x (by simp)
    have h2 : dec7 (x :: y :: r) = x % 128 + 128 * dec7 (y :: r) := rfl
    have h3 : dec7 (x :: y :: r) / 128 = dec7 (y :: r) := by omega
    have h4 : 128 + dec7 (x :: y :: r) % 128 = x := by omega
    rw [vd, if_pos (by omega), h3, h4, vd_dec (L := y :: r) (fun z hz => hb z (by simp [hz])) h.2 (by simpa using hl)]
theorem vd_ne : ∀ k n, vd k n ≠ []
  | 0, n => by simp [vd]
  | k + 1, n => by unfold vd; split <;> simp
theorem can_vd : ∀ {k n : Nat}, n < 128 ^ (k + 1) → canB true (vd k n) = true ∧ (1 ≤ n → canB false (vd k n) = true)
  | 0, n, h => by simp at h; simp [vd, canB, h]; omega
  | k + 1, n, h => by
    unfold vd
    split
    · rename_i hge
      have hd : n / 128 < 128 ^ (k + 1) := by rw [Nat.pow_succ] at h; omega
      have h2 := (can_vd hd).2 (by omega)
      cases hv : vd k (n / 128) with
      | nil => exact absurd hv (vd_ne _ _)
      | cons y r =>
        rw [hv] at h2
        have : canB false (y :: r) = true := h2
        simp [canB, this]
    · simp [canB]; omega
theorem dec7_lt : ∀ L : List Nat, dec7 L < 128 ^ L.length
  | [] => by simp [dec7]
  | x :: r => by have := dec7_lt r; simp only [dec7, List.length_cons, Nat.pow_succ]; omega
theorem bys_len (s : ByteArray) (k : Nat) : (bys s k).length = k := by simp [bys]
theorem bys_lt (s : ByteArray) (k : Nat) : ∀ x ∈ bys s k, x < 256 := by
  intro x hx
  obtain ⟨i, _, rfl⟩ := List.mem_map.1 hx
  exact by_lt s i
def val7 (s : ByteArray) (k : Nat) : Nat := dec7 (bys s k)
theorem val7_lt (s : ByteArray) {k : Nat} (hk : k ≤ 7) : val7 s k < 2 ^ 49 := by
  have h := dec7_lt (bys s k)
  rw [bys_len] at h
  have : 128 ^ k ≤ 128 ^ 7 := Nat.pow_le_pow_right (by omega) hk
  have : (128 : Nat) ^ 7 = 2 ^ 49 := by decide
  unfold val7; omega
theorem dec7_snoc : ∀ (L : List Nat) (x : Nat), dec7 (L ++ [x]) = dec7 L + x % 128 * 128 ^ L.length
  | [], x => by simp [dec7]
  | y :: L, x => by
    simp only [List.cons_append, dec7, dec7_snoc L x, List.length_cons, Nat.pow_succ]
    rw [Nat.mul_add]
    have : x % 128 * (128 ^ L.length * 128) = 128 * (x % 128 * 128 ^ L.length) := by
      rw [← Nat.mul_assoc, Nat.mul_comm]
    omega
theorem bys_succ (s : ByteArray) (k : Nat) : bys s (k + 1) = bys s k ++ [by_ s k] := by simp [bys, List.range_succ]
theorem val7_succ (s : ByteArray) (k : Nat) : val7 s (k + 1) = val7 s k + by_ s k % 128 * 128 ^ k := by rw [val7, bys_succ, dec7_snoc, bys_len]; rfl
theorem canB_snoc : ∀ (L : List Nat) (f : Bool) (x : Nat), canB f (L ++ [x]) = (L.all (fun y => decide (y ≥ 128)) && (decide (x < 128) && ((f && L.isEmpty) || decide (x ≠ 0))))
  | [], f, x => by simp [canB]
  | [y], f, x => by simp [canB]
  | y :: z :: r, f, x => by
    have h := canB_snoc (z :: r) false x
    simp only [List.cons_append] at h ⊢
    rw [canB, h]
    simp [Bool.and_assoc]
/-- The first k bytes are the number that they make. -/
def canK (s : ByteArray) (k : Nat) : Bool := canB true (bys s k)
theorem canK_succ (s : ByteArray) (k : Nat) : canK s (k + 1) = true ↔ (∀ i, i < k → 128 ≤ by_ s i) ∧ by_ s k < 128 ∧ (k = 0 ∨ by_ s k ≠ 0) := by
  rw [canK, bys_succ, canB_snoc]
  simp only [Bool.and_eq_true, Bool.or_eq_true, decide_eq_true_eq, List.all_eq_true, List.isEmpty_iff, true_and]
  have h0 : bys s k = [] ↔ k = 0 := by rw [← List.length_eq_zero_iff, bys_len]
  rw [h0]
  constructor
  · rintro ⟨h1, h2, h3⟩
    exact ⟨fun i hi => h1 _ (List.mem_map.2 ⟨i, List.mem_range.2 hi, rfl⟩), h2, h3⟩
  · rintro ⟨h1, h2, h3⟩
    refine ⟨fun y hy => ?_, h2, h3⟩
    obtain ⟨i, hi, rfl⟩ := List.mem_map.1 hy
    exact h1 i (List.mem_range.1 hi)
theorem bytesL_data (l : List Nat) : (bytesL l).data.toList = l.map UInt8.ofNat := by
  have : ∀ (l : List Nat) (b : ByteArray), (l.foldl (fun b n => b.push (UInt8.ofNat n)) b).data.toList = b.data.toList ++ l.map UInt8.ofNat := by
    intro l
    induction l with
    | nil => intro b; simp
    | cons a l ih => intro b; rw [List.foldl_cons, ih]; simp
  rw [bytesL, this]; rfl
theorem extract_bys {s : ByteArray} {k : Nat} (hk : k ≤ s.size) : s.extract 0 k = bytesL (bys s k) := by
  apply ByteArray.ext
  apply Array.ext'
  rw [bytesL_data, ByteArray.data_extract, Array.toList_extract]
  apply List.ext_getElem
  · simp [bys]; have : s.size = s.data.size := rfl; omega
  · intro i h1 h2
    have hi : i < k := by simpa [bys] using h2
    have his : i < s.data.size := by have : s.size = s.data.size := rfl; omega
    simp [bys, by_, Array.getD, his]
    intro hcon; have : s.size = s.data.size := rfl; omega
theorem bytesL_inj {a b : List Nat} (ha : ∀ x ∈ a, x < 256) (hb : ∀ x ∈ b, x < 256) (h : bytesL a = bytesL b) : a = b := by
  have h1 : a.map UInt8.ofNat = b.map UInt8.ofNat := by rw [← bytesL_data, ← bytesL_data, h]
  have h2 := congrArg (List.map UInt8.toNat) h1
  simp only [List.map_map] at h2
  have : ∀ l : List Nat, (∀ x ∈ l, x < 256) → l.map (UInt8.toNat ∘ UInt8.ofNat) = l := by
    intro l hl
    induction l with
    | nil => rfl
    | cons x l ih =>
      have hx := hl x (by simp)
      rw [List.map_cons, ih fun y hy => hl y (by simp [hy])]
      simp [Nat.mod_eq_of_lt hx]
  rwa [this a ha, this b hb] at h2
theorem vd_lt : ∀ (k n : Nat), n < 128 ^ (k + 1) → ∀ x ∈ vd k n, x < 256
  | 0, n, h => by simp at h; simp [vd]; omega
  | k + 1, n, h => by
    unfold vd
    split
    · intro x hx
      rcases List.mem_cons.1 hx with rfl | hx
      · omega
      · exact vd_lt k (n / 128) (by rw [Nat.pow_succ] at h; omega) x hx
    · simp; omega
theorem V_nat {n : Nat} (h : n < 2 ^ 49) : V n = bytesL (vd 6 n) := by
  rw [V, if_pos (by rw [inB_iff]; omega), Int.toNat_natCast]
/-- The number that k bytes make is written as they stand just if they are right. -/
theorem V_extract {s : ByteArray} {k : Nat} (hk : k ≤ 7) (hs : k ≤ s.size) : V (val7 s k) = s.extract 0 k ↔ canK s k = true := by
  have hlt := val7_lt s hk
  have h49 : (128 : Nat) ^ (6 + 1) = 2 ^ 49 := by decide
  rw [V_nat hlt, extract_bys hs]
  constructor
  · intro h
    have := bytesL_inj (vd_lt 6 _ (by rw [h49]; exact hlt)) (bys_lt s k) h
    rw [canK, ← this]
    exact (can_vd (by rw [h49]; exact hlt)).1
  · intro h
    rw [val7, vd_dec (bys_lt s k) h (by rw [bys_len]; omega)]
def rvF (s : ByteArray) : Nat → Nat → Int × Int
  | 0, _ => (0, 0)
  | f + 1, j => if j ≤ s.size ∧ canK s j = true then ((val7 s j : Int), (j : Int)) else rvF s f (j + 1)
/-- What is read of a number, and how many bytes it has. -/
def rv (s : ByteArray) : Int × Int := rvF s 7 1
theorem rvF_hit {s : ByteArray} {j : Nat} (hc : j ≤ s.size ∧ canK s j = true) : ∀ (f i : Nat), i ≤ j → j < i + f → (∀ m, i ≤ m → m < j → ¬ (m ≤ s.size ∧ canK s m = true)) → rvF s f i = ((val7 s j : Int), (j : Int))
  | 0, i, h1, h2, _ => by omega
  | f + 1, i, h1, h2, hn => by
    rcases Nat.lt_or_ge i j with h | h
    · rw [rvF, if_neg (hn i (Nat.le_refl _) h)]
      exact rvF_hit hc f (i + 1) h (by omega) fun m hm => hn m (by omega)
    · have : i = j := by omega
      subst this
      rw [rvF, if_pos hc]
theorem rvF_miss {s : ByteArray} : ∀ (f i : Nat), (∀ m, i ≤ m → m < i + f → ¬ (m ≤ s.size ∧ canK s m = true)) → rvF s f i = (0, 0)
  | 0, i, _ => rfl
  | f + 1, i, hn => by
    rw [rvF, if_neg (hn i (Nat.le_refl _) (by omega))]
    exact rvF_miss f (i + 1) fun m hm hm2 => hn m (by omega) (by omega)
theorem rv_ok (s : ByteArray) : rv s = (0, 0) ∨ ∃ j : Nat, 1 ≤ j ∧ j ≤ 7 ∧ j ≤ s.size ∧ canK s j = true ∧ rv s = ((val7 s j : Int), (j : Int)) := by
  have : ∀ f i, 1 ≤ i → i + f ≤ 8 → rvF s f i = (0, 0) ∨ ∃ j : Nat, 1 ≤ j ∧ j ≤ 7 ∧ j ≤ s.size ∧ canK s j = true ∧ rvF s f i = ((val7 s j : Int), (j : Int)) := by
    intro f
    induction f with
    | zero => intro i _ _; exact .inl rfl
    | succ f ih =>
      intro i h1 h2
      by_cases hc : i ≤ s.size ∧ canK s i = true
      · exact .inr ⟨i, h1, by omega, hc.1, hc.2, by rw [rvF, if_pos hc]⟩
      · rw [rvF, if_neg hc]; exact ih (i + 1) (by omega) (by omega)
  exact this 7 1 (by omega) (by omega)
theorem prP_shlV {a m : Nat} {b : Int} {K : Value → Prop} (hb : b = m) (hm : m ≤ 64) (hf : a * 2 ^ m < 2 ^ 63) (h : K (I ((a * 2 ^ m : Nat) : Int))) : prP (bnI .shl (I a) (I b)) K := by
  subst hb
  have e : bnI .shl (I a) (I (m : Int)) = some (.int .i64 (IntKind.i64.wrap ((a : Int) * 2 ^ min (m : Int).toNat 64))) := by
    show (if (m : Int) < 0 then none else _) = _
    rw [if_neg (by omega)]; rfl
  have e2 : (a : Int) * 2 ^ min (m : Int).toNat 64 = ((a * 2 ^ m : Nat) : Int) := by
    rw [Int.toNat_natCast, Nat.min_eq_left hm]; simp
  rw [e, e2, wrap_64 ⟨by omega, by omega⟩]; exact prP_some rfl h
theorem impl_ReadVar_c {s : ByteArray} {K : J2} (hs : (s.size : Int) < 2 ^ 62) (h : K [I (rv s).1, I (rv s).2] []) : cl2 ⟨Try.prog, w0⟩ 167 impl_ReadVar.sg [.string s] [] K := by
  refine impl_ReadVar.cl2 ?_
  unfold impl_ReadVar.txt
  refine loopP_from (fun k => [.string s, I (val7 s k), iv k]) (fun _ => []) 7 (fun k => k ≤ s.size ∧ ∀ i, i < k → 128 ≤ by_ s i) rfl rfl ⟨Nat.zero_le _, fun i hi => by omega⟩ (fun R k hk hP hR => ?_)
  obtain ⟨hks, hP⟩ := hP
  have miss : (7 ≤ k ∨ s.size ≤ k) → K [I 0, I 0] [] := fun hc => by
    have : rv s = (0, 0) := rvF_miss 7 1 fun m h1 h2 ⟨h3, h4⟩ => by
      obtain ⟨m, rfl⟩ : ∃ m', m = m' + 1 := ⟨m - 1, by omega⟩
      rw [canK_succ] at h4
      have := hP m (by omega); omega
    rw [this] at h; exact h
  repeat' (first | exact miss (by omega) | refine prP_ix (by omega) ?_ | refine gE_x ?_ | refine gE_u ?_ | refine gP_u ?_ | refine gE_sb ?_ | refine gE_su ?_ | refine gE_uu ?_ | refine gP_sTf ?_ | refine gP_sFf ?_ | refine gP_sTt ?_ | refine gP_sFt ?_ | refine gP_sy (by first | with_reducible assumption | omega) ?_ | refine gP_sn (by first | with_reducible assumption | omega) ?_ | refine gP_snf (by first | with_reducible assumption | omega) ?_ | refine gP_syf (by first | with_reducible assumption | omega) ?_ | refine gP_st (by with_reducible assumption) ?_ | refine gP_sf (by with_reducible assumption) ?_ | refine gP_sff (by with_reducible assumption) ?_ | refine gP_stf (by with_reducible assumption) ?_ | refine gP_TT ?_ | refine gP_FF ?_ | refine gP_TF ?_ | refine gP_FT ?_ | refine gP_yt (by first | with_reducible assumption | omega) ?_ | refine gP_nt (by first | with_reducible assumption | omega) ?_ | refine gP_yf (by first | with_reducible assumption | omega) ?_ | refine gP_nf (by first | with_reducible assumption | omega) ?_ | refine gP_on (by with_reducible assumption) ?_ | refine gP_offt (by with_reducible assumption) ?_ | refine gP_offf (by with_reducible assumption) ?_ | refine pk_t (by with_reducible assumption) rfl ?_ | refine pk_f (by with_reducible assumption) rfl ?_ | refine pk_y (by first | with_reducible assumption | omega) rfl ?_ | refine pk_n (by first | with_reducible assumption | omega) rfl ?_ | refine pk_T rfl ?_ | refine pk_F rfl ?_ | refine cndP_T ?_ | refine cndP_F ?_ | refine cndP_yes (by first | with_reducible assumption | omega) ?_ | refine cndP_no (by first | with_reducible assumption | omega) ?_ | refine cndP_on (by with_reducible assumption) ?_ | refine cndP_off (by with_reducible assumption) ?_ | refine prP_lss ?_ | refine prP_leq ?_ | refine prP_gtr ?_ | refine prP_geq ?_ | refine prP_eqd ?_ | refine prP_ned ?_ | refine prP_notnd ?_ | refine prP_notd ?_ | refine prP_lnS ?_ | refine prP_inc (by omega) ?_ | refine prP_add ⟨by omega, by omega⟩ ?_ | refine prP_sub ⟨by omega, by omega⟩ ?_ | refine prP_addw ?_ | refine prP_subw ?_ | refine prP_rem (by omega) (by omega) ?_ | refine prP_quo (by omega) ⟨by omega, by omega⟩ (by omega) ?_ | refine prP_eqSd ?_ | refine prP_neSd ?_ | refine prP_catS (by first | omega | (simp only [ByteArray.size_append]; omega)) ?_ | refine prP_eqB ?_ | refine prP_neB ?_ | refine ixW_iv (by omega) ?_ | refine ixW_c (by omega) (by omega) ?_ | refine ldI (by omega) ?_ | refine ldS (by omega) ?_ | refine ldg_ob (by omega) ?_ | refine ldg_wk (by omega) ?_ | refine ldg_po (by omega) ?_ | refine ldg_an (by omega) ?_ | refine ldg_nd (by omega) ?_ | refine ldc_ob (by omega) (by decide) rfl ?_ | refine ldc_ob0 (by omega) rfl ?_ | refine ldc_wk (by omega) (by decide) rfl ?_ | refine ldc_wk0 (by omega) rfl ?_ | refine ldc_po (by omega) (by decide) rfl ?_ | refine ldc_po0 (by omega) rfl ?_ | refine ldc_an (by omega) (by decide) rfl ?_ | refine ldc_an0 (by omega) rfl ?_ | refine ldc_nd (by omega) (by decide) rfl ?_ | refine ldc_nd0 (by omega) rfl ?_ | refine ldf_ob (by omega) (by omega) ?_ | refine ldl_ob (by omega) ?_ | refine ldf_nd (by omega) (by omega) ?_ | refine ldl_nd (by omega) ?_ | refine ldf_an (by omega) (by omega) ?_ | refine ldl_an (by omega) ?_ | refine ldg_tR (by omega) rfl rfl ?_ | refine ldc_tI (by omega) ?_ | refine ldc_tS (by omega) ?_ | refine ldc_tR (by omega) (by decide) rfl ?_ | refine ldc_tR0 (by omega) rfl ?_ | refine apW_p (by first | exact flat_tI _ | exact flat_tS _ | exact flat_tW _ | exact flat_tP _ | rfl) (by omega) ?_ | refine apW_n (by omega) ?_ | refine cndP_d (fun _ => ?_) (fun _ => ?_) | refine pk_sd rfl rfl (fun _ => ?_) (fun _ => ?_) | refine pk_sb rfl rfl (fun _ => ?_) (fun _ => ?_) | refine gP_dt (fun _ => ?_) (fun _ => ?_) | refine gP_df (fun _ => ?_) (fun _ => ?_) | refine cndP_i (fun _ => ?_) (fun _ => ?_) | refine gP_ct (fun _ => ?_) (fun _ => ?_) | refine gP_cf (fun _ => ?_) (fun _ => ?_) | refine prP_not ?_ | simp only [cnt_tO, cnt_tW, cnt_tP, cnt_tA, cnt_tN, cnt_tI, cnt_tS, cnt1_1, cnt1_0, cnt2_1, cnt3_1, cnt5_1, cnt6_1, cnt8_1, nx_0, nx_1, nx_2, nx_3, nx_4, nx_5, nx_6, nxc_0, nxc_1, nxc_2, nxc_3, nxc_4, nxc_5])
  have hb := by_lt s k
  have hv := val7_lt s (k := k) (by omega)
  have h7 : (128 : Nat) ^ k = 2 ^ (7 * k) := by rw [Nat.pow_mul]
  have hle : (2 : Nat) ^ (7 * k) ≤ 2 ^ 42 := Nat.pow_le_pow_right (by omega) (by omega)
  have hmul : by_ s k % 128 * 2 ^ (7 * k) ≤ 127 * 2 ^ 42 := Nat.mul_le_mul (by omega) hle
  refine prP_cv64 ⟨by omega, by omega⟩ (prP_rem (by omega) (by omega) (prP_mul ⟨by omega, by omega⟩ (prP_shlV (a := by_ s k % 128) (m := 7 * k) (by omega) (by omega) (by omega) (prP_add ⟨by omega, by omega⟩ ?_))))
  have e : (val7 s k : Int) + ((by_ s k % 128 * 2 ^ (7 * k) : Nat) : Int) = (val7 s (k + 1) : Int) := by rw [val7_succ, h7]; omega
  rw [e]
  refine prP_geq (cndP_d (fun hge => ?_) fun hlt => ?_)
  · refine prP_inc (by omega) (hR (by omega) ⟨by omega, fun i hi => ?_⟩)
    rcases Nat.lt_succ_iff_lt_or_eq.1 hi with h1 | rfl
    · exact hP i h1
    · omega
  · have none' : ∀ m, 1 ≤ m → m < k + 1 → ¬ (m ≤ s.size ∧ canK s m = true) := fun m h1 h2 ⟨h3, h4⟩ => by
      obtain ⟨m, rfl⟩ : ∃ m', m = m' + 1 := ⟨m - 1, by omega⟩
      rw [canK_succ] at h4
      have := hP m (by omega); omega
    repeat' (first | exact miss (by omega) | refine gE_x ?_ | refine gE_u ?_ | refine gP_u ?_ | refine gE_sb ?_ | refine gE_su ?_ | refine gE_uu ?_ | refine gP_sTf ?_ | refine gP_sFf ?_ | refine gP_sTt ?_ | refine gP_sFt ?_ | refine gP_sy (by first | with_reducible assumption | omega) ?_ | refine gP_sn (by first | with_reducible assumption | omega) ?_ | refine gP_snf (by first | with_reducible assumption | omega) ?_ | refine gP_syf (by first | with_reducible assumption | omega) ?_ | refine gP_st (by with_reducible assumption) ?_ | refine gP_sf (by with_reducible assumption) ?_ | refine gP_sff (by with_reducible assumption) ?_ | refine gP_stf (by with_reducible assumption) ?_ | refine gP_TT ?_ | refine gP_FF ?_ | refine gP_TF ?_ | refine gP_FT ?_ | refine gP_yt (by first | with_reducible assumption | omega) ?_ | refine gP_nt (by first | with_reducible assumption | omega) ?_ | refine gP_yf (by first | with_reducible assumption | omega) ?_ | refine gP_nf (by first | with_reducible assumption | omega) ?_ | refine gP_on (by with_reducible assumption) ?_ | refine gP_offt (by with_reducible assumption) ?_ | refine gP_offf (by with_reducible assumption) ?_ | refine pk_t (by with_reducible assumption) rfl ?_ | refine pk_f (by with_reducible assumption) rfl ?_ | refine pk_y (by first | with_reducible assumption | omega) rfl ?_ | refine pk_n (by first | with_reducible assumption | omega) rfl ?_ | refine pk_T rfl ?_ | refine pk_F rfl ?_ | refine cndP_T ?_ | refine cndP_F ?_ | refine cndP_yes (by first | with_reducible assumption | omega) ?_ | refine cndP_no (by first | with_reducible assumption | omega) ?_ | refine cndP_on (by with_reducible assumption) ?_ | refine cndP_off (by with_reducible assumption) ?_ | refine prP_lss ?_ | refine prP_leq ?_ | refine prP_gtr ?_ | refine prP_geq ?_ | refine prP_eqd ?_ | refine prP_ned ?_ | refine prP_notnd ?_ | refine prP_notd ?_ | refine prP_lnS ?_ | refine prP_inc (by omega) ?_ | refine prP_add ⟨by omega, by omega⟩ ?_ | refine prP_sub ⟨by omega, by omega⟩ ?_ | refine prP_addw ?_ | refine prP_subw ?_ | refine prP_rem (by omega) (by omega) ?_ | refine prP_quo (by omega) ⟨by omega, by omega⟩ (by omega) ?_ | refine prP_eqSd ?_ | refine prP_neSd ?_ | refine prP_catS (by first | omega | (simp only [ByteArray.size_append]; omega)) ?_ | refine prP_eqB ?_ | refine prP_neB ?_ | refine ixW_iv (by omega) ?_ | refine ixW_c (by omega) (by omega) ?_ | refine ldI (by omega) ?_ | refine ldS (by omega) ?_ | refine ldg_ob (by omega) ?_ | refine ldg_wk (by omega) ?_ | refine ldg_po (by omega) ?_ | refine ldg_an (by omega) ?_ | refine ldg_nd (by omega) ?_ | refine ldc_ob (by omega) (by decide) rfl ?_ | refine ldc_ob0 (by omega) rfl ?_ | refine ldc_wk (by omega) (by decide) rfl ?_ | refine ldc_wk0 (by omega) rfl ?_ | refine ldc_po (by omega) (by decide) rfl ?_ | refine ldc_po0 (by omega) rfl ?_ | refine ldc_an (by omega) (by decide) rfl ?_ | refine ldc_an0 (by omega) rfl ?_ | refine ldc_nd (by omega) (by decide) rfl ?_ | refine ldc_nd0 (by omega) rfl ?_ | refine ldf_ob (by omega) (by omega) ?_ | refine ldl_ob (by omega) ?_ | refine ldf_nd (by omega) (by omega) ?_ | refine ldl_nd (by omega) ?_ | refine ldf_an (by omega) (by omega) ?_ | refine ldl_an (by omega) ?_ | refine ldg_tR (by omega) rfl rfl ?_ | refine ldc_tI (by omega) ?_ | refine ldc_tS (by omega) ?_ | refine ldc_tR (by omega) (by decide) rfl ?_ | refine ldc_tR0 (by omega) rfl ?_ | refine apW_p (by first | exact flat_tI _ | exact flat_tS _ | exact flat_tW _ | exact flat_tP _ | rfl) (by omega) ?_ | refine apW_n (by omega) ?_ | refine cndP_d (fun _ => ?_) (fun _ => ?_) | refine pk_sd rfl rfl (fun _ => ?_) (fun _ => ?_) | refine pk_sb rfl rfl (fun _ => ?_) (fun _ => ?_) | refine gP_dt (fun _ => ?_) (fun _ => ?_) | refine gP_df (fun _ => ?_) (fun _ => ?_) | refine cndP_i (fun _ => ?_) (fun _ => ?_) | refine gP_ct (fun _ => ?_) (fun _ => ?_) | refine gP_cf (fun _ => ?_) (fun _ => ?_) | refine prP_not ?_ | simp only [cnt_tO, cnt_tW, cnt_tP, cnt_tA, cnt_tN, cnt_tI, cnt_tS, cnt1_1, cnt1_0, cnt2_1, cnt3_1, cnt5_1, cnt6_1, cnt8_1, nx_0, nx_1, nx_2, nx_3, nx_4, nx_5, nx_6, nxc_0, nxc_1, nxc_2, nxc_3, nxc_4, nxc_5])
    · have : rv s = (0, 0) := rvF_miss 7 1 fun m h1 h2 hh => by
        rcases Nat.lt_or_ge m (k + 1) with h3 | h3
        · exact none' m h1 h3 hh
        · obtain ⟨m, rfl⟩ : ∃ m', m = m' + 1 := ⟨m - 1, by omega⟩
          have h4 := (canK_succ s m).1 hh.2
          rcases Nat.lt_or_ge k m with h5 | h5
          · have := h4.1 k h5; omega
          · have : m = k := by omega
            subst this
            omega
      rw [this] at h; exact h
    all_goals
      have : rv s = ((val7 s (k + 1) : Int), ((k + 1 : Nat) : Int)) := rvF_hit ⟨by omega, (canK_succ s k).2 ⟨hP, by omega, by omega⟩⟩ 7 1 (by omega) (by omega) none'
      rw [this] at h; exact h
theorem spec_ReadVar_c {s : ByteArray} {K : J2} (hs : (s.size : Int) < 2 ^ 62) (h : K [I (rv s).1, I (rv s).2] []) : cl2 ⟨Try.prog, w0⟩ 99 spec_ReadVar.sg [.string s] [] K := by
  refine spec_ReadVar.cl2 ?_
  unfold spec_ReadVar.txt
  refine loopP_wf (α := Nat) (fun k => [.string s, iv k]) (fun _ => []) (fun k => 8 - k) (fun k => 1 ≤ k ∧ k ≤ 8 ∧ ∃ f, f + k = 8 ∧ rvF s f k = rv s) 1 rfl rfl ⟨by omega, by omega, 7, rfl, rfl⟩ (fun R k hP hR => ?_)
  obtain ⟨h1, h8, f, hf, hrv⟩ := hP
  have miss : (7 < k ∨ s.size < k) → K [I 0, I 0] [] := fun hc => by
    have : rvF s f k = (0, 0) := rvF_miss f k fun m m1 m2 ⟨m3, m4⟩ => by omega
    rw [← hrv, this] at h; exact h
  repeat' (first | exact miss (by omega) | refine gE_x ?_ | refine gE_u ?_ | refine gP_u ?_ | refine gE_sb ?_ | refine gE_su ?_ | refine gE_uu ?_ | refine gP_sTf ?_ | refine gP_sFf ?_ | refine gP_sTt ?_ | refine gP_sFt ?_ | refine gP_sy (by first | with_reducible assumption | omega) ?_ | refine gP_sn (by first | with_reducible assumption | omega) ?_ | refine gP_snf (by first | with_reducible assumption | omega) ?_ | refine gP_syf (by first | with_reducible assumption | omega) ?_ | refine gP_st (by with_reducible assumption) ?_ | refine gP_sf (by with_reducible assumption) ?_ | refine gP_sff (by with_reducible assumption) ?_ | refine gP_stf (by with_reducible assumption) ?_ | refine gP_TT ?_ | refine gP_FF ?_ | refine gP_TF ?_ | refine gP_FT ?_ | refine gP_yt (by first | with_reducible assumption | omega) ?_ | refine gP_nt (by first | with_reducible assumption | omega) ?_ | refine gP_yf (by first | with_reducible assumption | omega) ?_ | refine gP_nf (by first | with_reducible assumption | omega) ?_ | refine gP_on (by with_reducible assumption) ?_ | refine gP_offt (by with_reducible assumption) ?_ | refine gP_offf (by with_reducible assumption) ?_ | refine pk_t (by with_reducible assumption) rfl ?_ | refine pk_f (by with_reducible assumption) rfl ?_ | refine pk_y (by first | with_reducible assumption | omega) rfl ?_ | refine pk_n (by first | with_reducible assumption | omega) rfl ?_ | refine pk_T rfl ?_ | refine pk_F rfl ?_ | refine cndP_T ?_ | refine cndP_F ?_ | refine cndP_yes (by first | with_reducible assumption | omega) ?_ | refine cndP_no (by first | with_reducible assumption | omega) ?_ | refine cndP_on (by with_reducible assumption) ?_ | refine cndP_off (by with_reducible assumption) ?_ | refine prP_lss ?_ | refine prP_leq ?_ | refine prP_gtr ?_ | refine prP_geq ?_ | refine prP_eqd ?_ | refine prP_ned ?_ | refine prP_notnd ?_ | refine prP_notd ?_ | refine prP_lnS ?_ | refine prP_inc (by omega) ?_ | refine prP_add ⟨by omega, by omega⟩ ?_ | refine prP_sub ⟨by omega, by omega⟩ ?_ | refine prP_addw ?_ | refine prP_subw ?_ | refine prP_rem (by omega) (by omega) ?_ | refine prP_quo (by omega) ⟨by omega, by omega⟩ (by omega) ?_ | refine prP_eqSd ?_ | refine prP_neSd ?_ | refine prP_catS (by first | omega | (simp only [ByteArray.size_append]; omega)) ?_ | refine prP_eqB ?_ | refine prP_neB ?_ | refine ixW_iv (by omega) ?_ | refine ixW_c (by omega) (by omega) ?_ | refine ldI (by omega) ?_ | refine ldS (by omega) ?_ | refine ldg_ob (by omega) ?_ | refine ldg_wk (by omega) ?_ | refine ldg_po (by omega) ?_ | refine ldg_an (by omega) ?_ | refine ldg_nd (by omega) ?_ | refine ldc_ob (by omega) (by decide) rfl ?_ | refine ldc_ob0 (by omega) rfl ?_ | refine ldc_wk (by omega) (by decide) rfl ?_ | refine ldc_wk0 (by omega) rfl ?_ | refine ldc_po (by omega) (by decide) rfl ?_ | refine ldc_po0 (by omega) rfl ?_ | refine ldc_an (by omega) (by decide) rfl ?_ | refine ldc_an0 (by omega) rfl ?_ | refine ldc_nd (by omega) (by decide) rfl ?_ | refine ldc_nd0 (by omega) rfl ?_ | refine ldf_ob (by omega) (by omega) ?_ | refine ldl_ob (by omega) ?_ | refine ldf_nd (by omega) (by omega) ?_ | refine ldl_nd (by omega) ?_ | refine ldf_an (by omega) (by omega) ?_ | refine ldl_an (by omega) ?_ | refine ldg_tR (by omega) rfl rfl ?_ | refine ldc_tI (by omega) ?_ | refine ldc_tS (by omega) ?_ | refine ldc_tR (by omega) (by decide) rfl ?_ | refine ldc_tR0 (by omega) rfl ?_ | refine apW_p (by first | exact flat_tI _ | exact flat_tS _ | exact flat_tW _ | exact flat_tP _ | rfl) (by omega) ?_ | refine apW_n (by omega) ?_ | refine cndP_d (fun _ => ?_) (fun _ => ?_) | refine pk_sd rfl rfl (fun _ => ?_) (fun _ => ?_) | refine pk_sb rfl rfl (fun _ => ?_) (fun _ => ?_) | refine gP_dt (fun _ => ?_) (fun _ => ?_) | refine gP_df (fun _ => ?_) (fun _ => ?_) | refine cndP_i (fun _ => ?_) (fun _ => ?_) | refine gP_ct (fun _ => ?_) (fun _ => ?_) | refine gP_cf (fun _ => ?_) (fun _ => ?_) | refine prP_not ?_ | simp only [cnt_tO, cnt_tW, cnt_tP, cnt_tA, cnt_tN, cnt_tI, cnt_tS, cnt1_1, cnt1_0, cnt2_1, cnt3_1, cnt5_1, cnt6_1, cnt8_1, nx_0, nx_1, nx_2, nx_3, nx_4, nx_5, nx_6, nxc_0, nxc_1, nxc_2, nxc_3, nxc_4, nxc_5])
  obtain ⟨f, rfl⟩ : ∃ f', f = f' + 1 := ⟨f - 1, by omega⟩
  have drop : ∀ j, j < k → dec7 ((bys s k).drop j) = by_ s j % 128 + 128 * dec7 ((bys s k).drop (j + 1)) := fun j hj => by
    have hjl : j < (bys s k).length := by rw [bys_len]; exact hj
    rw [List.drop_eq_getElem_cons hjl]
    simp [dec7, bys]
  have small : ∀ j, dec7 ((bys s k).drop j) < 2 ^ 49 := fun j => by
    have h := dec7_lt ((bys s k).drop j)
    rw [List.length_drop, bys_len] at h
    have : 128 ^ (k - j) ≤ 128 ^ 7 := Nat.pow_le_pow_right (by omega) (by omega)
    have : (128 : Nat) ^ 7 = 2 ^ 49 := by decide
    omega
  refine loopP_wf (α := Nat) (fun j => [.string s, iv k, I (dec7 ((bys s k).drop j)), I ((j : Int) - 1)]) (fun _ => []) (fun j => j) (fun j => j ≤ k) k ?_ rfl (Nat.le_refl _) (fun R2 j hj hR2 => ?_)
  · have : (bys s k).drop k = [] := by rw [List.drop_eq_nil_iff, bys_len]; exact Nat.le_refl _
    rw [this]; rfl
  · refine prP_geq (cndP_d (fun hge => ?_) fun hlt => ?_)
    · obtain ⟨j, rfl⟩ : ∃ j', j = j' + 1 := ⟨j - 1, by omega⟩
      have hj2 : (((j + 1 : Nat) : Int) - 1) = (j : Int) := by omega
      have hb := by_lt s j
      have hsm := small (j + 1)
      have hR2' := hR2 j (by omega) (by omega)
      refine prP_mul ⟨by omega, by omega⟩ ?_
      simp only [nx_0, nx_1, nx_2, nx_3]
      rw [hj2]
      refine prP_ix (by omega) (prP_cv64 ⟨by omega, by omega⟩ (prP_rem (by omega) (by omega) (prP_add ⟨by omega, by omega⟩ (prP_sub ⟨by omega, by omega⟩ ?_))))
      have e : (dec7 ((bys s k).drop (j + 1)) : Int) * 128 + (by_ s j : Int) % 128 = (dec7 ((bys s k).drop j) : Int) := by rw [drop j (by omega)]; omega
      rw [e]; exact hR2'
    · have : j = 0 := by omega
      subst this
      have hv := val7_lt s (k := k) (by omega)
      have e : dec7 ((bys s k).drop 0) = val7 s k := rfl
      simp only [nx_0, nx_1, nx_2, nx_3]
      rw [e]
      refine spec_Var_c ⟨by omega, by omega⟩ (sc_t (by omega) (prP_eqSd (cndP_d (fun he => ?_) fun he => ?_)))
      · have := (V_extract (by omega) (by omega)).1 he
        rw [← hrv, rvF, if_pos ⟨by omega, this⟩] at h
        exact h
      · refine prP_inc (by omega) (hR (k + 1) ⟨by omega, by omega, f, by omega, ?_⟩ (by omega))
        rw [← hrv, rvF, if_neg fun hh => he ((V_extract (by omega) (by omega)).2 hh.2)]
attribute [irreducible] rv rvF canK val7 bys dr
end Go.Proofs.Ytnhicpkhkaihoaa.P
