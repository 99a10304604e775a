/- A part of the proof. -/
import Derived.Test.YtnhicpkhkaihoaaCgHpK
/- What leads where: the plain law of trials. -/
namespace Go.Proofs.Ytnhicpkhkaihoaa.P
open Go Go.Proofs.Ytnhicpkhkaihoaa Go.Proofs.Ytnhicpkhkaihoaa.Eng
set_option linter.unusedVariables false
theorem w64_eq (n : Int) : w64 n = (n + 9223372036854775808) % 18446744073709551616 - 9223372036854775808 := by
  simp only [w64, IntKind.wrap, IntKind.bits, IntKind.signed]
  simp
  split <;> omega
theorem w64_add (a b : Int) : w64 (w64 a + b) = w64 (a + b) := by simp only [w64_eq]; omega
theorem w64_F (a : Int) : F64 (w64 a) := by rw [w64_eq]; exact ⟨by omega, by omega⟩
/-! ### Sums -/
def sumTo : Nat → (Nat → Int) → Int
  | 0, _ => 0
  | n + 1, f => sumTo n f + f n
theorem sumTo_congr {n : Nat} {f g : Nat → Int} (h : ∀ k, k < n → f k = g k) : sumTo n f = sumTo n g := by
  induction n with
  | zero => rfl
  | succ n ih => simp only [sumTo]; rw [ih fun k hk => h k (by omega), h n (by omega)]
theorem sumTo_upd {n k0 : Nat} {f g : Nat → Int} (hk : k0 < n) (h : ∀ k, k < n → k ≠ k0 → f k = g k) : sumTo n g = sumTo n f + (g k0 - f k0) := by
  induction n with
  | zero => omega
  | succ n ih =>
    simp only [sumTo]
    by_cases he : k0 = n
    · subst he
      rw [sumTo_congr (g := g) fun k hk => h k (by omega) (by omega)]; omega
    · rw [ih (by omega) fun k hk hne => h k (by omega) hne, h n (by omega) (by omega)]; omega
theorem sumTo_add {n : Nat} {f g : Nat → Int} : sumTo n (fun k => f k + g k) = sumTo n f + sumTo n g := by
  induction n with
  | zero => rfl
  | succ n ih => simp only [sumTo, ih]; omega
theorem sumTo_zero {n : Nat} {f : Nat → Int} (h : ∀ k, k < n → f k = 0) : sumTo n f = 0 := by
  induction n with
  | zero => rfl
  | succ n ih => simp only [sumTo]; rw [ih fun k hk => h k (by omega), h n (by omega)]; rfl
theorem sumTo_le {n : Nat} {f g : Nat → Int} (h : ∀ k, k < n → f k ≤ g k) : sumTo n f ≤ sumTo n g := by
  induction n with
  | zero => exact Int.le_refl _
  | succ n ih => simp only [sumTo]; have := ih fun k hk => h k (by omega); have := h n (by omega); omega
theorem gI_set {l : List Int} {i k : Nat} {v : Int} (hk : k < l.length) : gI (l.set k v) i = if i = k then v else gI l i := by
  unfold gI
  by_cases h : i = k
  · subst h
    rw [if_pos rfl, List.getD_eq_getElem?_getD, List.getElem?_set_self hk]; rfl
  · rw [if_neg h, List.getD_eq_getElem?_getD, List.getElem?_set_ne (Ne.symm h), List.getD_eq_getElem?_getD]
/-! ### Who leads to whom -/
def kidsM (os : List HObj) (k : Nat) : List Int := ((ob os k).field.map (slotOf os)).filter fun x => decide (0 ≤ x)
/-- How often slot k leads to slot i. -/
def E (os : List HObj) (k i : Nat) : Int := ((kidsM os k).count (i : Int) : Nat)
theorem kids_bd {os : List HObj} {k : Nat} {x : Int} (h : x ∈ kidsM os k) : 0 ≤ x ∧ x.toNat < 8 ∧ x = (x.toNat : Int) ∧ os.length = 8 ∧ (ob os x.toNat).live = true := by
  obtain ⟨h1, h2⟩ := List.mem_filter.1 h
  obtain ⟨f, _, rfl⟩ := List.mem_map.1 h1
  have h2 : 0 ≤ slotOf os f := by simpa using h2
  have := slotOf_bd h2
  exact ⟨h2, this.2.2.2.1, by omega, this.1, this.2.2.2.2.1⟩
theorem kids_len {os : List HObj} (hof : ∀ o ∈ os, OF o) {k : Nat} (hk : k < os.length) : (kidsM os k).length ≤ 3 := by
  have := List.length_filter_le (fun x => decide (0 ≤ x)) ((ob os k).field.map (slotOf os))
  rw [List.length_map, (hof _ (ob_mem hk)).len] at this
  exact this
theorem E_zero {os : List HObj} {k i : Nat} (h : (i : Int) ∉ kidsM os k) : E os k i = 0 := by
  unfold E; rw [List.count_eq_zero.2 h]; rfl
inductive Reach (os : List HObj) (s : Nat) : Nat → Prop
  | refl : Reach os s s
  | step {k : Nat} {j : Int} : Reach os s k → j ∈ kidsM os k → Reach os s j.toNat
theorem Reach.trans {os : List HObj} {a b c : Nat} (h : Reach os a b) (g : Reach os b c) : Reach os a c := by
  induction g with
  | refl => exact h
  | step _ hj ih => exact .step ih hj
theorem Reach.closed {os : List HObj} {P : Nat → Prop} {s k : Nat} (h : Reach os s k) (hs : P s) (hc : ∀ k, P k → ∀ j ∈ kidsM os k, P j.toNat) : P k := by
  induction h with
  | refl => exact hs
  | step _ hj ih => exact hc _ ih _ hj
theorem Reach.lt {os : List HObj} {s k : Nat} (h : Reach os s k) (hs : s < 8) : k < 8 := h.closed (P := fun k => k < 8) hs fun _ _ _ hj => (kids_bd hj).2.1
/-- What those slots give to slot i. -/
def S (os : List HObj) (P : Nat → Bool) (i : Nat) : Int := sumTo 8 fun k => if P k then E os k i else 0
theorem S_congr {os : List HObj} {P Q : Nat → Bool} {i : Nat} (h : ∀ k, k < 8 → P k = Q k) : S os P i = S os Q i := sumTo_congr fun k hk => by rw [h k hk]
theorem S_put {os : List HObj} {P Q : Nat → Bool} {i k0 : Nat} (hk : k0 < 8) (h0 : P k0 = false) (h1 : Q k0 = true) (h : ∀ k, k < 8 → k ≠ k0 → P k = Q k) : S os Q i = S os P i + E os k0 i := by
  unfold S
  rw [sumTo_upd (n := 8) (f := fun k => if P k then E os k i else 0) (g := fun k => if Q k then E os k i else 0) hk fun k hk hne => by rw [h k hk hne]]
  simp only [h0, h1]; simp
theorem S_split {os : List HObj} {P : Nat → Bool} {i : Nat} : S os P i + S os (fun k => !P k) i = S os (fun _ => true) i := by
  unfold S
  rw [← sumTo_add]
  refine sumTo_congr fun k hk => ?_
  cases h : P k <;> simp [h]
/-! ### Painting -/
def isC (col : List Int) (c : Int) (k : Nat) : Bool := decide (gI col k = c)
theorem isC_set {col : List Int} {c : Int} {k s : Nat} (hs : s < col.length) : isC (col.set s c) c k = (decide (k = s) || isC col c k) := by
  unfold isC
  rw [gI_set hs]
  by_cases h : k = s
  · simp [h]
  · simp [h]
/-- How many slots are not of the color. -/
def miss (col : List Int) (c : Int) : Nat := (sumTo 8 fun k => if isC col c k then 0 else 1).toNat
theorem miss_le {a b : List Int} {c : Int} (h : ∀ k, k < 8 → gI a k = c → gI b k = c) : miss b c ≤ miss a c := by
  have : sumTo 8 (fun k => if isC b c k then 0 else 1) ≤ sumTo 8 (fun k => if isC a c k then 0 else 1) := sumTo_le fun k hk => by
    by_cases h1 : gI a k = c
    · simp [isC, h1, h k hk h1]
    · by_cases h3 : gI b k = c <;> simp [isC, h1, h3]
  unfold miss; omega
theorem miss_lt {a b : List Int} {c : Int} {s : Nat} (hs : s < 8) (h0 : gI a s ≠ c) (h1 : gI b s = c) (h : ∀ k, k < 8 → gI a k = c → gI b k = c) : miss b c < miss a c := by
  have hle : sumTo 8 (fun k => if isC b c k then 0 else 1) ≤ sumTo 8 (fun k => if isC a c k ∨ k = s then 0 else 1) := sumTo_le fun k hk => by
    by_cases h2 : gI a k = c
    · simp [isC, h2, h k hk h2]
    · by_cases hks : k = s
      · subst hks; simp [isC, h1]
      · by_cases h3 : gI b k = c <;> simp [isC, h2, h3, hks]
  have hu := sumTo_upd (n := 8) (k0 := s) (f := fun k => if isC a c k ∨ k = s then (0 : Int) else 1) (g := fun k => if isC a c k then (0 : Int) else 1) hs fun k hk hne => by simp [hne]
  have e1 : isC a c s = false := by simp [isC, h0]
  simp only [e1, or_true, if_true] at hu
  have h3 : 0 ≤ sumTo 8 (fun k => if isC b c k then (0 : Int) else 1) := by
    have := sumTo_le (n := 8) (f := fun _ => 0) (g := fun k => if isC b c k then (0 : Int) else 1) fun k hk => by split <;> simp
    rw [sumTo_zero (fun _ _ => rfl)] at this; exact this
  simp only [Bool.false_eq_true, if_false] at hu
  unfold miss; omega
theorem miss_8 (col : List Int) (c : Int) : miss col c ≤ 8 := by
  have : sumTo 8 (fun k => if isC col c k then (0 : Int) else 1) ≤ sumTo 8 (fun _ => 1) := sumTo_le fun k hk => by split <;> simp
  have e : sumTo 8 (fun _ => (1 : Int)) = 8 := rfl
  unfold miss; omega
structure PaintR (os : List HObj) (c m : Int) (cs col cs' col' : List Int) (s : Nat) : Prop where
  len : cs'.length = 8 ∧ col'.length = 8
  f : ∀ i, i < 8 → F64 (gI cs' i)
  keep : ∀ k, k < 8 → gI col k = c → gI col' k = c
  only : ∀ k, k < 8 → gI col' k ≠ c → gI col' k = gI col k
  got : gI col' s = c
  clo : ∀ k, k < 8 → gI col' k = c → gI col k ≠ c → Reach os s k ∧ ∀ j ∈ kidsM os k, gI col' j.toNat = c
  cnt : ∀ i, i < 8 → gI cs' i = w64 (gI cs i + m * (S os (isC col' c) i - S os (isC col c) i))
theorem PaintR.refl {os : List HObj} {c m : Int} {cs col : List Int} {s : Nat} (h1 : cs.length = 8) (h2 : col.length = 8) (hf : ∀ i, i < 8 → F64 (gI cs i)) (hs : gI col s = c) : PaintR os c m cs col cs col s :=
  ⟨⟨h1, h2⟩, hf, fun _ _ h => h, fun _ _ _ => rfl, hs, fun _ _ h1 h2 => absurd h1 h2, fun i hi => by rw [Int.sub_self, Int.mul_zero, Int.add_zero, w64_id (hf i hi)]⟩
end Go.Proofs.Ytnhicpkhkaihoaa.P
/- Trials: walking what leads where; painting. -/
namespace Go.Proofs.Ytnhicpkhkaihoaa.P
open Go Go.Proofs.Ytnhicpkhkaihoaa Go.Proofs.Ytnhicpkhkaihoaa.Eng
set_option linter.unusedVariables false
set_option maxHeartbeats 4000000
set_option linter.unusedVariables false
set_option linter.unusedSimpArgs false
attribute [local irreducible] prP gP gE gF cndP ixW ldc ldg ldl stc stg scW mkW apW loopP cl2 joinP pre2 selW
variable {w0 : World}
theorem kids_step {os : List HObj} {l : List Int} {i : Nat} (hi : i < l.length) : ((l.take (i + 1)).map (slotOf os)).filter (fun x => decide (0 ≤ x)) = ((l.take i).map (slotOf os)).filter (fun x => decide (0 ≤ x)) ++ (if 0 ≤ slotOf os (gI l i) then [slotOf os (gI l i)] else []) := by
  rw [List.take_succ_eq_append_getElem hi, List.map_append, List.filter_append, gI_eq hi]
  congr 1
  by_cases h : 0 ≤ slotOf os (gI l i) <;> simp [h]
theorem impl_leadsTo_c {os : List HObj} {b c d : List T} {k : Nat} {K : J2} (hol : os.length = 8) (hof : ∀ o ∈ os, OF o) (hk : k < 8) (h : K [] [tI (kidsM os k)]) : cl2 ⟨Try.prog, w0⟩ 237 impl_leadsTo.sg [I k] [tR tO os, b, c, d] K := by
  have hkl : k < os.length := by omega
  have ho := hof _ (ob_mem hkl)
  refine impl_leadsTo.cl2 ?_
  unfold impl_leadsTo.txt
  simp only [cnt_tO, cnt_tW, cnt_tP, cnt_tA, cnt_tN, cnt_tI, cnt_tS, cnt1_1, cnt1_0, cnt2_1, cnt3_1, cnt5_1, cnt6_1, cnt8_1, nx_0, nx_1, nx_2, nx_3, nx_4, nx_5, nx_6, nxc_0, nxc_1, nxc_2, nxc_3, nxc_4, nxc_5]
  refine ixW_iv hkl (ldl_tR (f := tO) (i := k) hkl (by decide) rfl ?_)
  rw [sub_ob hkl, cnt_tI, ho.len]
  refine loopP_from (fun i => [iv (natOf (iv k) * 8 + 6), iv 3, iv i]) (fun i => [tI ((((ob os k).field.take i).map (slotOf os)).filter fun x => decide (0 ≤ x))]) 3 (fun _ => True) rfl rfl trivial (fun R i hi hP hR => ?_)
  have hln := List.length_filter_le (fun x => decide (0 ≤ x)) (((ob os k).field.take i).map (slotOf os))
  have hl2 : (((ob os k).field.take i).map (slotOf os)).length ≤ i := by simp; omega
  simp only [cnt_tO, cnt_tW, cnt_tP, cnt_tA, cnt_tN, cnt_tI, cnt_tS, cnt1_1, cnt1_0, cnt2_1, cnt3_1, cnt5_1, cnt6_1, cnt8_1, nx_0, nx_1, nx_2, nx_3, nx_4, nx_5, nx_6, nxc_0, nxc_1, nxc_2, nxc_3, nxc_4, nxc_5]
  rw [natOf_iv (natOf (iv k) * 8 + 6), sub_ob hkl, cnt_tI]
  refine prP_lss (cndP_d (fun hlt => ?_) fun hge => ?_)
  · have hlt : i < (ob os k).field.length := by have := ho.len; omega
    replace hR := hR (by omega) trivial
    rw [kids_step hlt] at hR
    refine joinP_k (ixW_iv hlt (ldf_ob hkl hlt (impl_SlotOf_c (ho.fld _ (gI_mem hlt)) (by omega) (prP_geq (cndP_d (fun hs => ?_) fun hs => ?_)))))
    · rw [if_pos hs, ← tI_snoc] at hR
      refine apW_p rfl (by omega) (prP_inc (by omega) ?_)
      exact hR
    · rw [if_neg hs, List.append_nil] at hR
      exact prP_inc (by omega) hR
  · have : i = 3 := by omega
    subst this
    have e : (ob os k).field.take 3 = (ob os k).field := List.take_of_length_le (by rw [ho.len]; omega)
    rw [e]; exact h
theorem spec_l7Kids_c {os : List HObj} {b c d : List T} {k : Nat} {K : J2} (hol : os.length = 8) (hof : ∀ o ∈ os, OF o) (hk : k < 8) (h : K [] [tI (kidsM os k)]) : cl2 ⟨Try.prog, w0⟩ 227 spec_l7Kids.sg [I k] [tR tO os, b, c, d] K := by
  have hkl : k < os.length := by omega
  have ho := hof _ (ob_mem hkl)
  refine spec_l7Kids.cl2 ?_
  unfold spec_l7Kids.txt
  simp only [cnt_tO, cnt_tW, cnt_tP, cnt_tA, cnt_tN, cnt_tI, cnt_tS, cnt1_1, cnt1_0, cnt2_1, cnt3_1, cnt5_1, cnt6_1, cnt8_1, nx_0, nx_1, nx_2, nx_3, nx_4, nx_5, nx_6, nxc_0, nxc_1, nxc_2, nxc_3, nxc_4, nxc_5]
  refine loopP_from (fun i => [I k, iv i]) (fun i => [tI ((((ob os k).field.take i).map (slotOf os)).filter fun x => decide (0 ≤ x))]) 3 (fun _ => True) rfl rfl trivial (fun R i hi hP hR => ?_)
  have hln := List.length_filter_le (fun x => decide (0 ≤ x)) (((ob os k).field.take i).map (slotOf os))
  have hl2 : (((ob os k).field.take i).map (slotOf os)).length ≤ i := by simp; omega
  simp only [cnt_tO, cnt_tW, cnt_tP, cnt_tA, cnt_tN, cnt_tI, cnt_tS, cnt1_1, cnt1_0, cnt2_1, cnt3_1, cnt5_1, cnt6_1, cnt8_1, nx_0, nx_1, nx_2, nx_3, nx_4, nx_5, nx_6, nxc_0, nxc_1, nxc_2, nxc_3, nxc_4, nxc_5]
  refine ixW_iv hkl (ldl_tR (f := tO) (i := k) hkl (by decide) rfl ?_)
  rw [sub_ob hkl, cnt_tI, ho.len]
  refine prP_lss (cndP_d (fun hlt => ?_) fun hge => ?_)
  · have hlt : i < (ob os k).field.length := by have := ho.len; omega
    replace hR := hR (by omega) trivial
    rw [kids_step hlt] at hR
    refine joinP_k (ixW_iv hkl (ldl_tR (f := tO) (i := k) hkl (by decide) rfl ?_))
    rw [sub_ob hkl, cnt_tI]
    refine ixW_iv hlt (ldf_ob hkl hlt (spec_SlotOf_c (ho.fld _ (gI_mem hlt)) (by omega) (prP_geq (cndP_d (fun hs => ?_) fun hs => ?_))))
    · rw [if_pos hs, ← tI_snoc] at hR
      refine apW_p rfl (by omega) (prP_inc (by omega) ?_)
      exact hR
    · rw [if_neg hs, List.append_nil] at hR
      exact prP_inc (by omega) hR
  · have : i = 3 := by omega
    subst this
    have e : (ob os k).field.take 3 = (ob os k).field := List.take_of_length_le (by rw [ho.len]; omega)
    rw [e]; exact h
/-! ### Painting by calling itself -/
theorem stIw {l : List Int} {i : Nat} {v : Int} {K : List T → Prop} (hi : i < l.length) (h : K (tI (l.set i v))) : stc (tI l) [] (natOf (iv i) * 1) (I v) K := stc_tI hi h
/-- In the middle of painting: the kids of s, from the j-th on, are still to be painted. -/
structure PaintI (os : List HObj) (c m : Int) (cs col : List Int) (s : Nat) (q : Nat × List Int × List Int) : Prop where
  j : q.1 ≤ (kidsM os s).length
  len : q.2.1.length = 8 ∧ q.2.2.length = 8
  f : ∀ i, i < 8 → F64 (gI q.2.1 i)
  keep : ∀ k, k < 8 → gI col k = c ∨ k = s → gI q.2.2 k = c
  only : ∀ k, k < 8 → gI q.2.2 k ≠ c → gI q.2.2 k = gI col k
  clo : ∀ k, k < 8 → k ≠ s → gI q.2.2 k = c → gI col k ≠ c → Reach os s k ∧ ∀ j ∈ kidsM os k, gI q.2.2 j.toNat = c
  done : ∀ x ∈ (kidsM os s).take q.1, gI q.2.2 x.toNat = c
  cnt : ∀ i, i < 8 → gI q.2.1 i = w64 (gI cs i + m * (S os (isC q.2.2 c) i - S os (isC col c) i - (((kidsM os s).drop q.1).count (i : Int) : Nat)))
theorem PaintI.start {os : List HObj} {c m : Int} {cs col : List Int} {s : Nat} (hs : s < 8) (h1 : cs.length = 8) (h2 : col.length = 8) (hf : ∀ i, i < 8 → F64 (gI cs i)) (h0 : gI col s ≠ c) : PaintI os c m cs col s (0, cs, col.set s c) := by
  refine ⟨Nat.zero_le _, ⟨h1, by simpa using h2⟩, hf, fun k hk h => ?_, fun k hk h => ?_, fun k hk hne h3 h4 => ?_, fun x hx => by simp at hx, fun i hi => ?_⟩
  · simp only; rw [gI_set (by omega)]; split
    · rfl
    · rename_i hh; exact h.resolve_right hh
  · simp only at h ⊢; rw [gI_set (by omega)] at h ⊢; split
    · rename_i hh; rw [if_pos hh] at h; exact absurd rfl h
    · rfl
  · simp only at h3; rw [gI_set (by omega), if_neg hne] at h3; exact absurd h3 h4
  · simp only
    have e := S_put (os := os) (P := isC col c) (Q := isC (col.set s c) c) (i := i) hs (by simp [isC, h0]) (by rw [isC_set (by omega)]; simp) fun k hk hne => by rw [isC_set (by omega)]; simp [hne]
    rw [e, List.drop_zero]
    have : (((kidsM os s).count (i : Int) : Nat) : Int) = E os s i := rfl
    rw [this]
    have e2 : S os (isC col c) i + E os s i - S os (isC col c) i - E os s i = 0 := by omega
    rw [e2, Int.mul_zero, Int.add_zero, w64_id (hf i hi)]
theorem PaintI.step {os : List HObj} {c m : Int} {cs col : List Int} {s : Nat} {j : Nat} {cs1 col1 cs2 col2 : List Int} (hs : s < 8) (h : PaintI os c m cs col s (j, cs1, col1)) (hj : j < (kidsM os s).length) (p : PaintR os c m (cs1.set (gI (kidsM os s) j).toNat (w64 (gI cs1 (gI (kidsM os s) j).toNat + m))) col1 cs2 col2 (gI (kidsM os s) j).toNat) : PaintI os c m cs col s (j + 1, cs2, col2) := by
  have hx := kids_bd (gI_mem hj)
  have l1 := h.len
  refine ⟨by simp only; omega, p.len, p.f, fun k hk hh => p.keep k hk (h.keep k hk hh), fun k hk hne => ?_, fun k hk hne h3 h4 => ?_, fun x hx => ?_, fun i hi => ?_⟩
  · have e := p.only k hk hne
    simp only at hne ⊢
    rw [e]
    exact h.only k hk (by simp only; rw [← e]; exact hne)
  · by_cases h5 : gI col1 k = c
    · obtain ⟨g1, g2⟩ := h.clo k hk hne h5 h4
      exact ⟨g1, fun y hy => p.keep _ (kids_bd hy).2.1 (g2 y hy)⟩
    · obtain ⟨g1, g2⟩ := p.clo k hk h3 h5
      exact ⟨Reach.trans (.step .refl (gI_mem hj)) g1, g2⟩
  · simp only at hx ⊢
    rw [List.take_succ_eq_append_getElem hj, List.mem_append, List.mem_singleton] at hx
    rcases hx with hx | rfl
    · exact p.keep _ (kids_bd (List.mem_of_mem_take hx)).2.1 (h.done x hx)
    · rw [gI_eq hj]; exact p.got
  · have e1 := p.cnt i hi
    have e2 := h.cnt i hi
    simp only at e1 e2 ⊢
    rw [gI_set (by have := h.len.1; simp only at this; omega)] at e1
    have e3 : (((kidsM os s).drop j).count (i : Int) : Int) = (if i = (gI (kidsM os s) j).toNat then 1 else 0) + (((kidsM os s).drop (j + 1)).count (i : Int) : Int) := by
      rw [drop_cons hj, List.count_cons]
      by_cases hh : i = (gI (kidsM os s) j).toNat
      · have : (gI (kidsM os s) j == (i : Int)) = true := by simp; omega
        rw [if_pos hh, this]; simp; omega
      · have : (gI (kidsM os s) j == (i : Int)) = false := by simp; omega
        rw [if_neg hh, this]; simp
    rw [e1]
    by_cases hh : i = (gI (kidsM os s) j).toNat
    · rw [if_pos hh, ← hh, e2, w64_add, Int.add_assoc, w64_add]
      rw [if_pos hh] at e3
      congr 1
      rw [e3]
      generalize S os (isC col2 c) i = a
      generalize S os (isC col1 c) i = b
      generalize S os (isC col c) i = d
      generalize ((List.drop (j + 1) (kidsM os s)).count (i : Int) : Int) = e
      simp only [Int.mul_sub, Int.mul_add, Int.mul_one]; omega
    · rw [if_neg hh, e2, w64_add]
      rw [if_neg hh] at e3
      congr 1
      rw [e3]
      generalize S os (isC col2 c) i = a
      generalize S os (isC col1 c) i = b
      generalize S os (isC col c) i = d
      generalize ((List.drop (j + 1) (kidsM os s)).count (i : Int) : Int) = e
      simp only [Int.mul_sub, Int.mul_add, Int.mul_zero]; omega
theorem PaintI.stop {os : List HObj} {c m : Int} {cs col : List Int} {s : Nat} {cs1 col1 : List Int} (hs : s < 8) (h : PaintI os c m cs col s ((kidsM os s).length, cs1, col1)) : PaintR os c m cs col cs1 col1 s := by
  refine ⟨h.len, h.f, fun k hk hh => h.keep k hk (.inl hh), h.only, h.keep s hs (.inr rfl), fun k hk h3 h4 => ?_, fun i hi => ?_⟩
  · by_cases hks : k = s
    · subst hks
      exact ⟨.refl, fun y hy => h.done y (by simp only; rw [List.take_length]; exact hy)⟩
    · exact h.clo k hk hks h3 h4
  · have := h.cnt i hi
    simp only [List.drop_length, List.count_nil] at this
    rw [this]; simp
theorem impl_paint_c {os : List HObj} {b c' d : List T} {c m : Int} (hol : os.length = 8) (hof : ∀ o ∈ os, OF o) (hc : F64 c) (hm : F64 m) : ∀ (n : Nat) {cs col : List Int} {s : Nat} {K : J2}, miss col c ≤ n → s < 8 → cs.length = 8 → col.length = 8 → (∀ i, i < 8 → F64 (gI cs i)) → (∀ cs' col', PaintR os c m cs col cs' col' s → K [] [tI cs', tI col']) → cl2 ⟨Try.prog, w0⟩ 235 impl_Trial_paint.sg [I s, I c, I m] [tI cs, tI col, tR tO os, b, c', d] K := by
  intro n
  induction n with
  | zero =>
    intro cs col s K hn hs h1 h2 hf h
    refine impl_Trial_paint.cl2 ?_
    unfold impl_Trial_paint.txt
    simp only [cnt_tO, cnt_tW, cnt_tP, cnt_tA, cnt_tN, cnt_tI, cnt_tS, cnt1_1, cnt1_0, cnt2_1, cnt3_1, cnt5_1, cnt6_1, cnt8_1, nx_0, nx_1, nx_2, nx_3, nx_4, nx_5, nx_6, nxc_0, nxc_1, nxc_2, nxc_3, nxc_4, nxc_5]
    refine ixW_iv (by omega) (ldI (by omega) (prP_eqd (cndP_d (fun he => h _ _ (PaintR.refl h1 h2 hf he)) fun he => ?_)))
    have := miss_lt (a := col) (b := col.set s c) (c := c) hs he (by rw [gI_set (by omega)]; simp) fun k hk hh => by rw [gI_set (by omega)]; split <;> first | rfl | exact hh
    exact absurd this (by omega)
  | succ n ih =>
    intro cs col s K hn hs h1 h2 hf h
    refine impl_Trial_paint.cl2 ?_
    unfold impl_Trial_paint.txt
    simp only [cnt_tO, cnt_tW, cnt_tP, cnt_tA, cnt_tN, cnt_tI, cnt_tS, cnt1_1, cnt1_0, cnt2_1, cnt3_1, cnt5_1, cnt6_1, cnt8_1, nx_0, nx_1, nx_2, nx_3, nx_4, nx_5, nx_6, nxc_0, nxc_1, nxc_2, nxc_3, nxc_4, nxc_5]
    refine ixW_iv (by omega) (ldI (by omega) (prP_eqd (cndP_d (fun he => h _ _ (PaintR.refl h1 h2 hf he)) fun he => ?_)))
    refine ixW_iv (by omega) (stIw (by omega) (impl_leadsTo_c hol hof hs ?_))
    simp only [cnt_tO, cnt_tW, cnt_tP, cnt_tA, cnt_tN, cnt_tI, cnt_tS, cnt1_1, cnt1_0, cnt2_1, cnt3_1, cnt5_1, cnt6_1, cnt8_1, nx_0, nx_1, nx_2, nx_3, nx_4, nx_5, nx_6, nxc_0, nxc_1, nxc_2, nxc_3, nxc_4, nxc_5]
    have hkl := kids_len hof (k := s) (by omega)
    refine loopP_wf (α := Nat × List Int × List Int) (fun q => [I c, I m, iv (kidsM os s).length, iv q.1]) (fun q => [tI (kidsM os s), tI q.2.1, tI q.2.2]) (fun q => (kidsM os s).length - q.1) (PaintI os c m cs col s) (0, cs, col.set s c) rfl rfl (PaintI.start hs h1 h2 hf he) (fun R q hq hR => ?_)
    obtain ⟨j, cs1, col1⟩ := q
    have hj := hq.j
    have hl := hq.len
    simp only at hj hl
    simp only [cnt_tO, cnt_tW, cnt_tP, cnt_tA, cnt_tN, cnt_tI, cnt_tS, cnt1_1, cnt1_0, cnt2_1, cnt3_1, cnt5_1, cnt6_1, cnt8_1, nx_0, nx_1, nx_2, nx_3, nx_4, nx_5, nx_6, nxc_0, nxc_1, nxc_2, nxc_3, nxc_4, nxc_5]
    refine prP_lss (cndP_d (fun hlt => ?_) fun hge => ?_)
    · have hlt : j < (kidsM os s).length := by omega
      obtain ⟨x1, x2, x3, _⟩ := kids_bd (gI_mem hlt)
      have hmiss : miss col1 c ≤ n := by
        have := miss_lt (a := col) (b := col1) (c := c) hs he (hq.keep s hs (.inr rfl)) fun k hk hh => hq.keep k hk (.inl hh)
        omega
      have stp := fun cs2 col2 => PaintI.step (cs2 := cs2) (col2 := col2) hs hq hlt
      obtain ⟨x, hx⟩ : ∃ x, (gI (kidsM os s) j).toNat = x := ⟨_, rfl⟩
      rw [hx] at x2 x3 stp
      refine ixW_iv hlt (ldI hlt ?_)
      rw [x3]
      refine ixW_iv (by omega) (ldI (by omega) (prP_addw (ixW_iv (by omega) (stIw (by omega) ?_))))
      refine ih hmiss x2 (by simpa using hl.1) hl.2 (fun i hi => ?_) fun cs2 col2 p => ?_
      · rw [gI_set (by omega)]; split
        · exact w64_F _
        · exact hq.f i hi
      · exact prP_inc (by omega) (hR (j + 1, cs2, col2) (stp _ _ p) (by simp only; omega))
    · have : j = (kidsM os s).length := by omega
      subst this
      exact h _ _ (PaintI.stop hs hq)
end Go.Proofs.Ytnhicpkhkaihoaa.P
/- Painting with a list of what waits. -/
namespace Go.Proofs.Ytnhicpkhkaihoaa.P
open Go Go.Proofs.Ytnhicpkhkaihoaa Go.Proofs.Ytnhicpkhkaihoaa.Eng
set_option linter.unusedVariables false
set_option maxHeartbeats 4000000
set_option linter.unusedVariables false
set_option linter.unusedSimpArgs false
attribute [local irreducible] prP gP gE gF cndP ixW ldc ldg ldl stc stg scW mkW apW loopP cl2 joinP pre2 selW
variable {w0 : World}
/-- What those that wait will give to slot i. -/
def W (os : List HObj) : List Int → Nat → Int
  | [], _ => 0
  | x :: l, i => E os x.toNat i + W os l i
theorem W_app (os : List HObj) (a b : List Int) (i : Nat) : W os (a ++ b) i = W os a i + W os b i := by
  induction a with
  | nil => simp [W]
  | cons x a ih => simp only [List.cons_append, W, ih]; omega
structure Vw (row : List Int) (off : Nat) (todo : List Int) : Prop where
  bd : off + todo.length ≤ row.length
  vw : (row.drop off).take todo.length = todo
theorem Vw.get {row todo : List Int} {off j : Nat} (h : Vw row off todo) (hj : j < todo.length) : gI row (off + j) = gI todo j := by
  have e := congrArg (fun l => l[j]?) h.vw
  simp only [List.getElem?_take, hj, if_true, List.getElem?_drop] at e
  unfold gI
  rw [List.getD_eq_getElem?_getD, List.getD_eq_getElem?_getD, e]
theorem Vw.pop {row todo : List Int} {off : Nat} (h : Vw row off todo) : Vw row off todo.dropLast := by
  refine ⟨by have := h.bd; rw [List.length_dropLast]; omega, ?_⟩
  have e := congrArg List.dropLast h.vw
  rw [List.dropLast_eq_take, List.take_take] at e
  rw [List.length_dropLast, ← e, List.length_take, List.length_drop]
  have := h.bd
  congr 1; omega
theorem Vw.new (todo : List Int) : Vw todo 0 todo := ⟨by omega, by simp⟩
theorem todo_last {todo : List Int} (h : todo.length > 0) : todo = todo.dropLast ++ [gI todo (todo.length - 1)] := by
  have hne : todo ≠ [] := fun he => by rw [he] at h; simp at h
  have := (List.dropLast_concat_getLast hne).symm
  rw [List.getLast_eq_getElem hne, gI_eq (by omega)] at this
  exact this
structure WorkI (os : List HObj) (c m : Int) (cs0 col0 : List Int) (s : Nat) (todo cs col : List Int) : Prop where
  len : cs.length = 8 ∧ col.length = 8
  f : ∀ i, i < 8 → F64 (gI cs i)
  keep : ∀ k, k < 8 → gI col0 k = c → gI col k = c
  only : ∀ k, k < 8 → gI col k ≠ c → gI col k = gI col0 k
  got : gI col s = c
  td : ∀ x ∈ todo, 0 ≤ x ∧ x.toNat < 8 ∧ gI col x.toNat = c ∧ gI col0 x.toNat ≠ c ∧ Reach os s x.toNat
  nd : todo.Nodup
  clo : ∀ k, k < 8 → gI col k = c → gI col0 k ≠ c → Reach os s k ∧ ((k : Int) ∈ todo ∨ ∀ j ∈ kidsM os k, gI col j.toNat = c)
  cnt : ∀ i, i < 8 → gI cs i = w64 (gI cs0 i + m * (S os (isC col c) i - S os (isC col0 c) i - W os todo i))
  sz : todo.length + miss col c ≤ 8
structure WorkJ (os : List HObj) (c m : Int) (cs0 col0 : List Int) (s : Nat) (k j : Nat) (todo cs col : List Int) : Prop where
  len : cs.length = 8 ∧ col.length = 8
  f : ∀ i, i < 8 → F64 (gI cs i)
  keep : ∀ k, k < 8 → gI col0 k = c → gI col k = c
  only : ∀ k, k < 8 → gI col k ≠ c → gI col k = gI col0 k
  got : gI col s = c
  td : ∀ x ∈ todo, 0 ≤ x ∧ x.toNat < 8 ∧ gI col x.toNat = c ∧ gI col0 x.toNat ≠ c ∧ Reach os s x.toNat
  nd : todo.Nodup
  me : k < 8 ∧ Reach os s k
  clo : ∀ x, x < 8 → x ≠ k → gI col x = c → gI col0 x ≠ c → Reach os s x ∧ ((x : Int) ∈ todo ∨ ∀ j ∈ kidsM os x, gI col j.toNat = c)
  done : ∀ x ∈ (kidsM os k).take j, gI col x.toNat = c
  cnt : ∀ i, i < 8 → gI cs i = w64 (gI cs0 i + m * (S os (isC col c) i - S os (isC col0 c) i - W os todo i - (((kidsM os k).drop j).count (i : Int) : Nat)))
  sz : todo.length + miss col c ≤ 8
section
variable {os : List HObj} {c m : Int} {cs0 col0 cs col todo : List Int} {s k j : Nat}
theorem WorkI.start (hs : s < 8) (h1 : cs0.length = 8) (h2 : col0.length = 8) (hf : ∀ i, i < 8 → F64 (gI cs0 i)) (h0 : gI col0 s ≠ c) : WorkI os c m cs0 col0 s [(s : Int)] cs0 (col0.set s c) := by
  have hkeep : ∀ k, k < 8 → gI col0 k = c → gI (col0.set s c) k = c := fun k hk h => by rw [gI_set (by omega)]; split <;> first | rfl | exact h
  have hgot : gI (col0.set s c) s = c := by rw [gI_set (by omega)]; simp
  refine ⟨⟨h1, by simpa using h2⟩, hf, hkeep, fun k hk h => ?_, hgot, fun x hx => ?_, by simp, fun k hk h3 h4 => ?_, fun i hi => ?_, ?_⟩
  · rw [gI_set (by omega)] at h ⊢; split
    · rename_i hh; rw [if_pos hh] at h; exact absurd rfl h
    · rfl
  · have hx : x = (s : Int) := by simpa using hx
    subst hx
    rw [Int.toNat_natCast]
    exact ⟨by omega, hs, hgot, h0, .refl⟩
  · rw [gI_set (by omega)] at h3
    by_cases hh : k = s
    · subst hh; exact ⟨.refl, .inl (by simp)⟩
    · rw [if_neg hh] at h3; exact absurd h3 h4
  · have e := S_put (os := os) (P := isC col0 c) (Q := isC (col0.set s c) c) (i := i) hs (by simp [isC, h0]) (by rw [isC_set (by omega)]; simp) fun k hk hne => by rw [isC_set (by omega)]; simp [hne]
    simp only [W, Int.toNat_natCast]
    rw [e]
    have e2 : S os (isC col0 c) i + E os s i - S os (isC col0 c) i - (E os s i + 0) = 0 := by omega
    rw [e2, Int.mul_zero, Int.add_zero, w64_id (hf i hi)]
  · have := miss_lt hs h0 hgot hkeep
    have := miss_8 col0 c
    simp only [List.length_singleton]; omega
theorem WorkI.stop (h : WorkI os c m cs0 col0 s [] cs col) : PaintR os c m cs0 col0 cs col s :=
  ⟨h.len, h.f, h.keep, h.only, h.got, fun k hk h3 h4 => ⟨(h.clo k hk h3 h4).1, (h.clo k hk h3 h4).2.resolve_left (by simp)⟩, fun i hi => by have := h.cnt i hi; simp only [W, Int.sub_zero] at this; exact this⟩
theorem WorkI.pop (h : WorkI os c m cs0 col0 s todo cs col) (hl : todo.length > 0) (hk : (gI todo (todo.length - 1)).toNat = k) : gI todo (todo.length - 1) = (k : Int) ∧ k < 8 ∧ WorkJ os c m cs0 col0 s k 0 todo.dropLast cs col := by
  have e := todo_last hl
  have hm : gI todo (todo.length - 1) ∈ todo := gI_mem (by omega)
  obtain ⟨t1, t2, t3, t4, t5⟩ := h.td _ hm
  rw [hk] at t2 t3 t4 t5
  have e2 : gI todo (todo.length - 1) = (k : Int) := by omega
  rw [e2] at e
  have hnd := h.nd
  rw [e, List.nodup_append] at hnd
  refine ⟨e2, t2, h.len, h.f, h.keep, h.only, h.got, fun x hx => h.td x (List.dropLast_subset _ hx), hnd.1, ⟨t2, t5⟩, fun x hx hne h3 h4 => ?_, by simp, fun i hi => ?_, ?_⟩
  · obtain ⟨g1, g2⟩ := h.clo x hx h3 h4
    refine ⟨g1, g2.imp_left fun g => ?_⟩
    rw [e, List.mem_append, List.mem_singleton] at g
    exact g.resolve_right (by omega)
  · rw [h.cnt i hi]
    have : W os todo i = W os todo.dropLast i + E os k i := by
      conv => lhs; rw [e]
      rw [W_app]; simp [W]
    rw [this, List.drop_zero]
    congr 3
    have e3 : (((kidsM os k).count (i : Int) : Nat) : Int) = E os k i := rfl
    rw [e3]; omega
  · have := h.sz
    rw [List.length_dropLast]; omega
theorem WorkJ.stop (h : WorkJ os c m cs0 col0 s k (kidsM os k).length todo cs col) : WorkI os c m cs0 col0 s todo cs col := by
  refine ⟨h.len, h.f, h.keep, h.only, h.got, h.td, h.nd, fun x hx h3 h4 => ?_, fun i hi => ?_, h.sz⟩
  · by_cases hk : x = k
    · subst hk
      exact ⟨h.me.2, .inr fun y hy => h.done y (by rw [List.take_length]; exact hy)⟩
    · exact h.clo x hx hk h3 h4
  · have := h.cnt i hi
    simp only [List.drop_length, List.count_nil] at this
    rw [this]; simp
theorem cnt_next {l : List Int} {j i : Nat} {x : Nat} (hj : j < l.length) (hx : gI l j = (x : Int)) : ((l.drop j).count (i : Int) : Int) = (if i = x then 1 else 0) + ((l.drop (j + 1)).count (i : Int) : Int) := by
  rw [drop_cons hj, List.count_cons, hx]
  by_cases hh : i = x
  · have : ((x : Int) == (i : Int)) = true := by simp; omega
    rw [if_pos hh, this]; simp; omega
  · have : ((x : Int) == (i : Int)) = false := by simp; omega
    rw [if_neg hh, this]; simp
/-- One more kid is counted; it had the color. -/
theorem WorkJ.old (h : WorkJ os c m cs0 col0 s k j todo cs col) (hj : j < (kidsM os k).length) {x : Nat} (hx : gI (kidsM os k) j = (x : Int)) (hc : gI col x = c) : WorkJ os c m cs0 col0 s k (j + 1) todo (cs.set x (w64 (gI cs x + m))) col := by
  have x8 : x < 8 := by have := (kids_bd (gI_mem hj)).2.1; rw [hx] at this; simpa using this
  have hl := h.len
  refine ⟨⟨by simpa using hl.1, hl.2⟩, fun i hi => ?_, h.keep, h.only, h.got, h.td, h.nd, h.me, h.clo, fun y hy => ?_, fun i hi => ?_, h.sz⟩
  · rw [gI_set (by omega)]; split
    · exact w64_F _
    · exact h.f i hi
  · rw [List.take_succ_eq_append_getElem hj, List.mem_append, List.mem_singleton] at hy
    rcases hy with hy | rfl
    · exact h.done y hy
    · rw [gI_eq hj, hx, Int.toNat_natCast]; exact hc
  · rw [gI_set (by omega)]
    have e2 := h.cnt i hi
    have e3 := cnt_next (i := i) hj hx
    by_cases hh : i = x
    · rw [if_pos hh, ← hh, e2, w64_add]
      rw [if_pos hh] at e3
      congr 1
      rw [e3]
      generalize S os (isC col c) i = a
      generalize S os (isC col0 c) i = b
      generalize W os todo i = d
      generalize ((List.drop (j + 1) (kidsM os k)).count (i : Int) : Int) = e
      simp only [Int.mul_sub, Int.mul_add, Int.mul_one]; omega
    · rw [if_neg hh, e2]
      rw [if_neg hh] at e3
      rw [e3, Int.zero_add]
/-- One more kid is counted, and waits from now on. -/
theorem WorkJ.new (h : WorkJ os c m cs0 col0 s k j todo cs col) (hj : j < (kidsM os k).length) {x : Nat} (hx : gI (kidsM os k) j = (x : Int)) (hc : gI col x ≠ c) : WorkJ os c m cs0 col0 s k (j + 1) (todo ++ [(x : Int)]) (cs.set x (w64 (gI cs x + m))) (col.set x c) := by
  have x8 : x < 8 := by have := (kids_bd (gI_mem hj)).2.1; rw [hx] at this; simpa using this
  have hl := h.len
  have hgot : gI (col.set x c) x = c := by rw [gI_set (by omega)]; simp
  have kp : ∀ y, gI col y = c → gI (col.set x c) y = c := fun y hy => by rw [gI_set (by omega)]; split <;> first | rfl | exact hy
  have hrx : Reach os s x := by have := Reach.step h.me.2 (gI_mem hj); rw [hx] at this; simpa using this
  have h0x : gI col0 x ≠ c := fun he => hc (h.keep x x8 he)
  refine ⟨⟨by simpa using hl.1, by simpa using hl.2⟩, fun i hi => ?_, fun y hy he => kp y (h.keep y hy he), fun y hy he => ?_, kp s h.got, fun y hy => ?_, ?_, h.me, fun y hy hne h3 h4 => ?_, fun y hy => ?_, fun i hi => ?_, ?_⟩
  · rw [gI_set (by omega)]; split
    · exact w64_F _
    · exact h.f i hi
  · rw [gI_set (by omega)] at he ⊢
    split
    · rename_i hh; rw [if_pos hh] at he; exact absurd rfl he
    · rename_i hh; rw [if_neg hh] at he; exact h.only y hy he
  · rw [List.mem_append, List.mem_singleton] at hy
    rcases hy with hy | rfl
    · obtain ⟨a1, a2, a3, a4, a5⟩ := h.td y hy
      exact ⟨a1, a2, kp _ a3, a4, a5⟩
    · rw [Int.toNat_natCast]
      exact ⟨by omega, x8, hgot, h0x, hrx⟩
  · rw [List.nodup_append]
    refine ⟨h.nd, by simp, fun a ha b hb => ?_⟩
    have hb : b = (x : Int) := by simpa using hb
    subst hb
    intro he
    subst he
    exact hc (by have := (h.td _ ha).2.2.1; rwa [Int.toNat_natCast] at this)
  · by_cases hyx : y = x
    · subst hyx; exact ⟨hrx, .inl (by simp)⟩
    · rw [gI_set (by omega), if_neg hyx] at h3
      obtain ⟨g1, g2⟩ := h.clo y hy hne h3 h4
      exact ⟨g1, g2.elim (fun g => .inl (List.mem_append_left _ g)) fun g => .inr fun z hz => kp _ (g z hz)⟩
  · rw [List.take_succ_eq_append_getElem hj, List.mem_append, List.mem_singleton] at hy
    rcases hy with hy | rfl
    · exact kp _ (h.done y hy)
    · rw [gI_eq hj, hx, Int.toNat_natCast]; exact hgot
  · rw [gI_set (by omega)]
    have e2 := h.cnt i hi
    have e3 := cnt_next (i := i) hj hx
    have e := S_put (os := os) (P := isC col c) (Q := isC (col.set x c) c) (i := i) x8 (by simp [isC, hc]) (by rw [isC_set (by omega)]; simp) fun k hk hne => by rw [isC_set (by omega)]; simp [hne]
    have ew : W os (todo ++ [(x : Int)]) i = W os todo i + E os x i := by rw [W_app]; simp [W]
    rw [e, ew]
    by_cases hh : i = x
    · rw [if_pos hh, ← hh, e2, w64_add]
      rw [if_pos hh] at e3
      congr 1
      rw [e3, hh]
      generalize S os (isC col c) x = a
      generalize S os (isC col0 c) x = b
      generalize W os todo x = d
      generalize E os x x = g
      generalize ((List.drop (j + 1) (kidsM os k)).count (x : Int) : Int) = e
      have : a + g - b - (d + g) - e = a - b - d - (1 + e) + 1 := by omega
      rw [this, Int.mul_add, Int.mul_one]; omega
    · rw [if_neg hh, e2]
      rw [if_neg hh] at e3
      rw [e3]
      congr 3
      omega
  · have := miss_lt (c := c) x8 hc hgot fun y _ hy => kp y hy
    have := h.sz
    simp only [List.length_append, List.length_singleton]; omega
end
end Go.Proofs.Ytnhicpkhkaihoaa.P
/- Trials: the other text's marking and blackening. -/
namespace Go.Proofs.Ytnhicpkhkaihoaa.P
open Go Go.Proofs.Ytnhicpkhkaihoaa Go.Proofs.Ytnhicpkhkaihoaa.Eng
set_option linter.unusedVariables false
set_option maxHeartbeats 4000000
set_option linter.unusedVariables false
set_option linter.unusedSimpArgs false
attribute [local irreducible] prP gP gE gF cndP ixW ldc ldg ldl stc stg scW mkW apW loopP cl2 joinP pre2 selW
variable {w0 : World}
theorem impl_copyTrial_c {a b : List Int} {K : J2} (h1 : a.length ≤ 100) (h2 : b.length ≤ 100) (h : K [] [tI a, tI b]) : cl2 ⟨Try.prog, w0⟩ 233 impl_copyTrial.sg [] [tI a, tI b] K := by
  refine impl_copyTrial.cl2 ?_
  unfold impl_copyTrial.txt
  exact impl_copyInts_c (by omega) (impl_copyInts_c (by omega) h)
theorem spec_l7Copy_c {a b : List Int} {K : J2} (h1 : a.length ≤ 100) (h2 : b.length ≤ 100) (h : K [] [tI a, tI b]) : cl2 ⟨Try.prog, w0⟩ 225 spec_l7Copy.sg [] [tI a, tI b] K := by
  refine spec_l7Copy.cl2 ?_
  unfold spec_l7Copy.txt
  rw [List.nil_append, List.nil_append]
  simp only [cnt_tO, cnt_tW, cnt_tP, cnt_tA, cnt_tN, cnt_tI, cnt_tS, cnt1_1, cnt1_0, cnt2_1, cnt3_1, cnt5_1, cnt6_1, cnt8_1, nx_0, nx_1, nx_2, nx_3, nx_4, nx_5, nx_6, nxc_0, nxc_1, nxc_2, nxc_3, nxc_4, nxc_5]
  exact apW_p (flat_tI _) (by first | omega | (simp only [cnt, List.length_nil]; omega)) (apW_p (flat_tI _) (by first | omega | (simp only [cnt, List.length_nil]; omega)) h)
theorem impl_canTry_c {os : List HObj} {b c d : List T} {cs col : List Int} {id : Int} {K : J2} (hol : os.length = 8) (h1 : cs.length = 8) (h2 : col.length = 8) (hno : slotOf os id < 0 → K [.bool false] []) (hyes : 0 ≤ slotOf os id → K [.bool true] []) : cl2 ⟨Try.prog, w0⟩ 234 impl_canTry.sg [I (slotOf os id)] [tR tO os, b, c, d, tI cs, tI col] K := by
  refine impl_canTry.cl2 ?_
  unfold impl_canTry.txt
  simp only [cnt_tO, cnt_tW, cnt_tP, cnt_tA, cnt_tN, cnt_tI, cnt_tS, cnt1_1, cnt1_0, cnt2_1, cnt3_1, cnt5_1, cnt6_1, cnt8_1, nx_0, nx_1, nx_2, nx_3, nx_4, nx_5, nx_6, nxc_0, nxc_1, nxc_2, nxc_3, nxc_4, nxc_5]
  refine prP_eqd ?_
  have e1 : (os.length : Int) = 8 := by omega
  have e2 : (cs.length : Int) = 8 := by omega
  have e3 : (col.length : Int) = 8 := by omega
  by_cases hs : slotOf os id < 0
  · have := hno hs
    repeat' (first | refine impl_in_d ?_ | refine gE_x ?_ | refine gP_yt (by first | with_reducible assumption | omega) ?_ | refine gP_nt (by first | with_reducible assumption | omega) ?_ | refine pk_y (by first | with_reducible assumption | omega) rfl ?_ | refine pk_n (by first | with_reducible assumption | omega) rfl ?_ | refine prP_eqd ?_)
    all_goals first | exact this | omega
  · have := hyes (by omega)
    have hk := slotOf_bd (l := os) (id := id) (by omega)
    obtain ⟨k, hkk⟩ : ∃ k, (slotOf os id).toNat = k := ⟨_, rfl⟩
    have hkI : slotOf os id = (k : Int) := by omega
    rw [hkk] at hk
    rw [hkI]
    have hkl : k < os.length := by omega
    repeat' (first | refine ldc_ob0 (v := .bool true) hkl (by simp [tO, hk.2.2.2.2.1]) ?_ | refine impl_in_d ?_ | refine gE_x ?_ | refine gP_yt (by first | with_reducible assumption | omega) ?_ | refine pk_y (by first | with_reducible assumption | omega) rfl ?_ | refine prP_eqd ?_ | refine ixW_iv (by omega) ?_)
    all_goals first | exact this | omega
theorem spec_l7Ok_c {os : List HObj} {b c d : List T} {cs col : List Int} {id : Int} {K : J2} (hol : os.length = 8) (h1 : cs.length = 8) (h2 : col.length = 8) (hno : slotOf os id < 0 → K [.bool false] []) (hyes : 0 ≤ slotOf os id → K [.bool true] []) : cl2 ⟨Try.prog, w0⟩ 226 spec_l7Ok.sg [I (slotOf os id)] [tR tO os, b, c, d, tI cs, tI col] K := by
  refine spec_l7Ok.cl2 ?_
  unfold spec_l7Ok.txt
  simp only [cnt_tO, cnt_tW, cnt_tP, cnt_tA, cnt_tN, cnt_tI, cnt_tS, cnt1_1, cnt1_0, cnt2_1, cnt3_1, cnt5_1, cnt6_1, cnt8_1, nx_0, nx_1, nx_2, nx_3, nx_4, nx_5, nx_6, nxc_0, nxc_1, nxc_2, nxc_3, nxc_4, nxc_5]
  refine prP_eqd ?_
  have e1 : (os.length : Int) = 8 := by omega
  have e2 : (cs.length : Int) = 8 := by omega
  have e3 : (col.length : Int) = 8 := by omega
  by_cases hs : slotOf os id < 0
  · have := hno hs
    repeat' (first | refine spec_l1In_d ?_ | refine gE_x ?_ | refine gP_yt (by first | with_reducible assumption | omega) ?_ | refine gP_nt (by first | with_reducible assumption | omega) ?_ | refine pk_y (by first | with_reducible assumption | omega) rfl ?_ | refine pk_n (by first | with_reducible assumption | omega) rfl ?_ | refine prP_eqd ?_)
    all_goals first | exact this | omega
  · have := hyes (by omega)
    have hk := slotOf_bd (l := os) (id := id) (by omega)
    obtain ⟨k, hkk⟩ : ∃ k, (slotOf os id).toNat = k := ⟨_, rfl⟩
    have hkI : slotOf os id = (k : Int) := by omega
    rw [hkk] at hk
    rw [hkI]
    have hkl : k < os.length := by omega
    repeat' (first | refine ldc_ob0 (v := .bool true) hkl (by simp [tO, hk.2.2.2.2.1]) ?_ | refine spec_l1In_d ?_ | refine gE_x ?_ | refine gP_yt (by first | with_reducible assumption | omega) ?_ | refine pk_y (by first | with_reducible assumption | omega) rfl ?_ | refine prP_eqd ?_ | refine ixW_iv (by omega) ?_)
    all_goals first | exact this | omega
theorem scW_hi {n i : Nat} (hi : i ≤ n) {K : Value → Value → Prop} (h : K (iv 0) (iv i)) : scW n none (some (.int .i64 i)) K := scW_to hi h
theorem spec_l7Black_c {os : List HObj} {b c' d : List T} {cs col : List Int} {s : Nat} {K : J2} (hol : os.length = 8) (hof : ∀ o ∈ os, OF o) (hs : s < 8) (h1 : cs.length = 8) (h2 : col.length = 8) (hf : ∀ i, i < 8 → F64 (gI cs i)) (h0 : gI col s ≠ 0) (h : ∀ cs' col', PaintR os 0 1 cs col cs' col' s → K [] [tI cs', tI col']) : cl2 ⟨Try.prog, w0⟩ 228 spec_l7Black.sg [I s] [tR tO os, b, c', d, tI cs, tI col] K := by
  refine spec_l7Black.cl2 ?_
  unfold spec_l7Black.txt
  simp only [cnt_tO, cnt_tW, cnt_tP, cnt_tA, cnt_tN, cnt_tI, cnt_tS, cnt1_1, cnt1_0, cnt2_1, cnt3_1, cnt5_1, cnt6_1, cnt8_1, nx_0, nx_1, nx_2, nx_3, nx_4, nx_5, nx_6, nxc_0, nxc_1, nxc_2, nxc_3, nxc_4, nxc_5]
  refine ixW_iv (by omega) (stIw (v := 0) (by omega) ?_)
  refine loopP_wf (α := List Int × Nat × List Int × List Int × List Int) (fun q => [iv q.2.2.1.length, iv q.2.1]) (fun q => [tI q.1, tI q.2.2.2.1, tI q.2.2.2.2]) (fun q => q.2.2.1.length + 2 * miss q.2.2.2.2 0) (fun q => Vw q.1 q.2.1 q.2.2.1 ∧ WorkI os 0 1 cs col s q.2.2.1 q.2.2.2.1 q.2.2.2.2) ([(s : Int)], 0, [(s : Int)], cs, col.set s 0) rfl rfl ⟨Vw.new _, WorkI.start hs h1 h2 hf h0⟩ (fun R q hq hR => ?_)
  obtain ⟨row, off, todo, cs1, col1⟩ := q
  obtain ⟨vw, wk⟩ := hq
  simp only at vw wk
  have hsz := wk.sz
  have hbd := vw.bd
  simp only [cnt_tO, cnt_tW, cnt_tP, cnt_tA, cnt_tN, cnt_tI, cnt_tS, cnt1_1, cnt1_0, cnt2_1, cnt3_1, cnt5_1, cnt6_1, cnt8_1, nx_0, nx_1, nx_2, nx_3, nx_4, nx_5, nx_6, nxc_0, nxc_1, nxc_2, nxc_3, nxc_4, nxc_5]
  simp only [natOf_iv]
  refine prP_gtr (cndP_d (fun hlt => ?_) fun hge => ?_)
  · have hlt : todo.length > 0 := by omega
    obtain ⟨k, hk⟩ : ∃ k, (gI todo (todo.length - 1)).toNat = k := ⟨_, rfl⟩
    obtain ⟨e1, k8, wj⟩ := wk.pop hlt hk
    have ev : ((todo.length : Int) - 1) = ((todo.length - 1 : Nat) : Int) := by omega
    refine prP_sub ⟨by omega, by omega⟩ ?_
    rw [ev]
    refine ixW_iv (by omega) ?_
    have eg := vw.get (j := todo.length - 1) (by omega)
    have el : ldc (tI row) [] (off + natOf (iv (todo.length - 1)) * 1) = ldc (tI row) [] (natOf (iv (off + (todo.length - 1))) * 1) := by rw [natOf_iv, natOf_iv]; congr 1; omega
    rw [el]
    refine ldI (by omega) ?_
    rw [eg, e1]
    refine prP_sub ⟨by omega, by omega⟩ ?_
    rw [ev]
    refine scW_hi (by omega) (spec_l7Kids_c hol hof k8 ?_)
    have hkl := kids_len hof (k := k) (by omega)
    refine loopP_wf (α := Nat × List Int × Nat × List Int × List Int × List Int) (fun q => [iv q.2.2.2.1.length, iv q.2.2.1, iv q.1]) (fun q => [tI q.2.1, tI (kidsM os k), tI q.2.2.2.2.1, tI q.2.2.2.2.2]) (fun q => (kidsM os k).length - q.1) (fun q => q.1 ≤ (kidsM os k).length ∧ Vw q.2.1 q.2.2.1 q.2.2.2.1 ∧ WorkJ os 0 1 cs col s k q.1 q.2.2.2.1 q.2.2.2.2.1 q.2.2.2.2.2 ∧ q.2.2.2.1.length + 2 * miss q.2.2.2.2.2 0 < todo.length + 2 * miss col1 0) (0, row, off, todo.dropLast, cs1, col1) ?_ rfl ⟨Nat.zero_le _, vw.pop, wj, by simp only [List.length_dropLast]; omega⟩ (fun R2 q hq hR2 => ?_)
    · simp only [List.length_dropLast, natOf_iv, Nat.zero_mul, Nat.add_zero]; rfl
    obtain ⟨j, row2, off2, todo2, cs2, col2⟩ := q
    obtain ⟨hj, vw2, wj2, hms⟩ := hq
    simp only at hj vw2 wj2 hms
    have hsz2 := wj2.sz
    have hbd2 := vw2.bd
    have hl2 := wj2.len
    simp only [cnt_tO, cnt_tW, cnt_tP, cnt_tA, cnt_tN, cnt_tI, cnt_tS, cnt1_1, cnt1_0, cnt2_1, cnt3_1, cnt5_1, cnt6_1, cnt8_1, nx_0, nx_1, nx_2, nx_3, nx_4, nx_5, nx_6, nxc_0, nxc_1, nxc_2, nxc_3, nxc_4, nxc_5]
    simp only [natOf_iv]
    refine prP_lss (cndP_d (fun hlj => ?_) fun hgj => ?_)
    · have hlj : j < (kidsM os k).length := by omega
      obtain ⟨x, hx⟩ : ∃ x, (gI (kidsM os k) j).toNat = x := ⟨_, rfl⟩
      obtain ⟨x1, x2, x3, _⟩ := kids_bd (gI_mem hlj)
      rw [hx] at x2 x3
      have xc : x < cs2.length := by omega
      have xl : x < col2.length := by omega
      refine joinP_k (ixW_iv hlj (ldI hlj (ixW_iv hlj (ldI hlj ?_))))
      rw [x3]
      refine ixW_iv xc (ldI xc (prP_addw (ixW_iv xc (stIw xc (ixW_iv hlj (ldI hlj ?_))))))
      rw [x3]
      refine ixW_iv xl (ldI xl (prP_ned (cndP_d (fun hne => ?_) fun heq => ?_)))
      · refine ixW_iv hlj (ldI hlj ?_)
        rw [x3]
        refine ixW_iv xl (stIw (v := 0) xl (ixW_iv hlj (ldI hlj ?_)))
        rw [x3]
        have wn := wj2.new hlj x3 hne
        have := miss_lt (a := col2) (b := col2.set x 0) (c := 0) x2 hne (by rw [gI_set xl]; simp) fun y _ hy => by rw [gI_set xl]; split <;> first | rfl | exact hy
        refine apW_p rfl (by omega) (prP_inc (by omega) ?_)
        have := hR2 (j + 1, todo2 ++ [(x : Int)], 0, todo2 ++ [(x : Int)], _, _) ⟨by simp only; omega, Vw.new _, wn, by simp only [List.length_append, List.length_singleton]; omega⟩ (by simp only; omega)
        simp only [Nat.mul_one, sub2_pl1, vw2.vw]
        have ea : tI todo2 ++ [T.c (I (x : Int))] = tI (todo2 ++ [(x : Int)]) := tI_snoc _ _
        rw [ea]
        simp only [cnt_tO, cnt_tW, cnt_tP, cnt_tA, cnt_tN, cnt_tI, cnt_tS, cnt1_1, cnt1_0, cnt2_1, cnt3_1, cnt5_1, cnt6_1, cnt8_1, nx_0, nx_1, nx_2, nx_3, nx_4, nx_5, nx_6, nxc_0, nxc_1, nxc_2, nxc_3, nxc_4, nxc_5]
        simp only [natOf_iv]
        exact this
      · have heq : gI col2 x = 0 := Decidable.not_not.1 heq
        have wo := wj2.old hlj x3 heq
        refine prP_inc (by omega) ?_
        have := hR2 (j + 1, row2, off2, todo2, _, _) ⟨by simp only; omega, vw2, wo, hms⟩ (by simp only; omega)
        simp only [cnt_tO, cnt_tW, cnt_tP, cnt_tA, cnt_tN, cnt_tI, cnt_tS, cnt1_1, cnt1_0, cnt2_1, cnt3_1, cnt5_1, cnt6_1, cnt8_1, nx_0, nx_1, nx_2, nx_3, nx_4, nx_5, nx_6, nxc_0, nxc_1, nxc_2, nxc_3, nxc_4, nxc_5]
        simp only [natOf_iv]
        exact this
    · have : j = (kidsM os k).length := by omega
      subst this
      have := hR (row2, off2, todo2, cs2, col2) ⟨vw2, wj2.stop⟩ hms
      exact this
  · have : todo = [] := List.length_eq_zero_iff.1 (by omega)
    subst this
    exact h _ _ wk.stop
theorem spec_MarkGray_c {os : List HObj} {b c' d : List T} {cs col : List Int} {id : Int} {K : J2} (hol : os.length = 8) (hof : ∀ o ∈ os, OF o) (h1 : cs.length = 8) (h2 : col.length = 8) (hf : ∀ i, i < 8 → F64 (gI cs i)) (hno : slotOf os id < 0 → K [] [tI cs, tI col]) (h : ∀ s : Nat, slotOf os id = s → s < 8 → ∀ cs' col', PaintR os 1 (-1) cs col cs' col' s → K [] [tI cs', tI col']) : cl2 ⟨Try.prog, w0⟩ 195 spec_MarkGray.sg [I (slotOf os id)] [tR tO os, b, c', d, tI cs, tI col] K := by
  refine spec_MarkGray.cl2 ?_
  unfold spec_MarkGray.txt
  refine spec_l7Copy_c (by omega) (by omega) (spec_l7Ok_c hol h1 h2 (fun hs => ?_) fun hs => ?_)
  · replace hno := hno hs
    repeat' (first | refine gE_x ?_ | refine gP_TF ?_ | refine pk_T rfl ?_ | refine cndP_T ?_ | refine prP_not ?_ | simp only [cnt_tO, cnt_tW, cnt_tP, cnt_tA, cnt_tN, cnt_tI, cnt_tS, cnt1_1, cnt1_0, cnt2_1, cnt3_1, cnt5_1, cnt6_1, cnt8_1, nx_0, nx_1, nx_2, nx_3, nx_4, nx_5, nx_6, nxc_0, nxc_1, nxc_2, nxc_3, nxc_4, nxc_5])
    all_goals exact hno
  have hk := slotOf_bd hs
  obtain ⟨s, hss⟩ : ∃ s, (slotOf os id).toNat = s := ⟨_, rfl⟩
  have hsI : slotOf os id = (s : Int) := by omega
  have hs : s < 8 := hss ▸ hk.2.2.2.1
  replace h := h s hsI hs
  clear hno
  rw [hsI]
  refine prP_not ?_
  have hsl : s < col.length := by omega
  simp only [cnt_tO, cnt_tW, cnt_tP, cnt_tA, cnt_tN, cnt_tI, cnt_tS, cnt1_1, cnt1_0, cnt2_1, cnt3_1, cnt5_1, cnt6_1, cnt8_1, nx_0, nx_1, nx_2, nx_3, nx_4, nx_5, nx_6, nxc_0, nxc_1, nxc_2, nxc_3, nxc_4, nxc_5]
  refine gE_x (gE_x (gE_x (gP_FF (ixW_iv hsl ?_))))
  refine gP_FF (ldI hsl (gP_FF (prP_eqd (pk_F rfl ?_))))
  refine cndP_d (fun he => h _ _ (PaintR.refl h1 h2 hf he)) fun h0 => ?_
  refine ixW_iv (by omega) (stIw (v := 1) (by omega) ?_)
  refine loopP_wf (α := List Int × Nat × List Int × List Int × List Int) (fun q => [iv q.2.2.1.length, iv q.2.1]) (fun q => [tI q.1, tI q.2.2.2.1, tI q.2.2.2.2]) (fun q => q.2.2.1.length + 2 * miss q.2.2.2.2 1) (fun q => Vw q.1 q.2.1 q.2.2.1 ∧ WorkI os 1 (-1) cs col s q.2.2.1 q.2.2.2.1 q.2.2.2.2) ([(s : Int)], 0, [(s : Int)], cs, col.set s 1) rfl rfl ⟨Vw.new _, WorkI.start hs h1 h2 hf h0⟩ (fun R q hq hR => ?_)
  obtain ⟨row, off, todo, cs1, col1⟩ := q
  obtain ⟨vw, wk⟩ := hq
  simp only at vw wk
  have hsz := wk.sz
  have hbd := vw.bd
  simp only [cnt_tO, cnt_tW, cnt_tP, cnt_tA, cnt_tN, cnt_tI, cnt_tS, cnt1_1, cnt1_0, cnt2_1, cnt3_1, cnt5_1, cnt6_1, cnt8_1, nx_0, nx_1, nx_2, nx_3, nx_4, nx_5, nx_6, nxc_0, nxc_1, nxc_2, nxc_3, nxc_4, nxc_5]
  simp only [natOf_iv]
  refine prP_gtr (cndP_d (fun hlt => ?_) fun hge => ?_)
  · have hlt : todo.length > 0 := by omega
    obtain ⟨k, hk⟩ : ∃ k, (gI todo (todo.length - 1)).toNat = k := ⟨_, rfl⟩
    obtain ⟨e1, k8, wj⟩ := wk.pop hlt hk
    have ev : ((todo.length : Int) - 1) = ((todo.length - 1 : Nat) : Int) := by omega
    refine prP_sub ⟨by omega, by omega⟩ ?_
    rw [ev]
    refine ixW_iv (by omega) ?_
    have eg := vw.get (j := todo.length - 1) (by omega)
    have el : ldc (tI row) [] (off + natOf (iv (todo.length - 1)) * 1) = ldc (tI row) [] (natOf (iv (off + (todo.length - 1))) * 1) := by rw [natOf_iv, natOf_iv]; congr 1; omega
    rw [el]
    refine ldI (by omega) ?_
    rw [eg, e1]
    refine prP_sub ⟨by omega, by omega⟩ ?_
    rw [ev]
    refine scW_hi (by omega) (spec_l7Kids_c hol hof k8 ?_)
    have hkl := kids_len hof (k := k) (by omega)
    refine loopP_wf (α := Nat × List Int × Nat × List Int × List Int × List Int) (fun q => [iv q.2.2.2.1.length, iv q.2.2.1, iv q.1]) (fun q => [tI q.2.1, tI (kidsM os k), tI q.2.2.2.2.1, tI q.2.2.2.2.2]) (fun q => (kidsM os k).length - q.1) (fun q => q.1 ≤ (kidsM os k).length ∧ Vw q.2.1 q.2.2.1 q.2.2.2.1 ∧ WorkJ os 1 (-1) cs col s k q.1 q.2.2.2.1 q.2.2.2.2.1 q.2.2.2.2.2 ∧ q.2.2.2.1.length + 2 * miss q.2.2.2.2.2 1 < todo.length + 2 * miss col1 1) (0, row, off, todo.dropLast, cs1, col1) ?_ rfl ⟨Nat.zero_le _, vw.pop, wj, by simp only [List.length_dropLast]; omega⟩ (fun R2 q hq hR2 => ?_)
    · simp only [List.length_dropLast, natOf_iv, Nat.zero_mul, Nat.add_zero]; rfl
    obtain ⟨j, row2, off2, todo2, cs2, col2⟩ := q
    obtain ⟨hj, vw2, wj2, hms⟩ := hq
    simp only at hj vw2 wj2 hms
    have hsz2 := wj2.sz
    have hbd2 := vw2.bd
    have hl2 := wj2.len
    simp only [cnt_tO, cnt_tW, cnt_tP, cnt_tA, cnt_tN, cnt_tI, cnt_tS, cnt1_1, cnt1_0, cnt2_1, cnt3_1, cnt5_1, cnt6_1, cnt8_1, nx_0, nx_1, nx_2, nx_3, nx_4, nx_5, nx_6, nxc_0, nxc_1, nxc_2, nxc_3, nxc_4, nxc_5]
    simp only [natOf_iv]
    refine prP_lss (cndP_d (fun hlj => ?_) fun hgj => ?_)
    · have hlj : j < (kidsM os k).length := by omega
      obtain ⟨x, hx⟩ : ∃ x, (gI (kidsM os k) j).toNat = x := ⟨_, rfl⟩
      obtain ⟨x1, x2, x3, _⟩ := kids_bd (gI_mem hlj)
      rw [hx] at x2 x3
      have xc : x < cs2.length := by omega
      have xl : x < col2.length := by omega
      refine joinP_k (ixW_iv hlj (ldI hlj (ixW_iv hlj (ldI hlj ?_))))
      rw [x3]
      refine ixW_iv xc (ldI xc (prP_subw (ixW_iv xc (stIw xc (ixW_iv hlj (ldI hlj ?_))))))
      rw [x3]
      refine ixW_iv xl (ldI xl (prP_ned (cndP_d (fun hne => ?_) fun heq => ?_)))
      · refine ixW_iv hlj (ldI hlj ?_)
        rw [x3]
        refine ixW_iv xl (stIw (v := 1) xl (ixW_iv hlj (ldI hlj ?_)))
        rw [x3]
        have wn := wj2.new hlj x3 hne
        have := miss_lt (a := col2) (b := col2.set x 1) (c := 1) x2 hne (by rw [gI_set xl]; simp) fun y _ hy => by rw [gI_set xl]; split <;> first | rfl | exact hy
        refine apW_p rfl (by omega) (prP_inc (by omega) ?_)
        have := hR2 (j + 1, todo2 ++ [(x : Int)], 0, todo2 ++ [(x : Int)], _, _) ⟨by simp only; omega, Vw.new _, wn, by simp only [List.length_append, List.length_singleton]; omega⟩ (by simp only; omega)
        simp only [Nat.mul_one, sub2_pl1, vw2.vw]
        have ea : tI todo2 ++ [T.c (I (x : Int))] = tI (todo2 ++ [(x : Int)]) := tI_snoc _ _
        rw [ea]
        simp only [cnt_tO, cnt_tW, cnt_tP, cnt_tA, cnt_tN, cnt_tI, cnt_tS, cnt1_1, cnt1_0, cnt2_1, cnt3_1, cnt5_1, cnt6_1, cnt8_1, nx_0, nx_1, nx_2, nx_3, nx_4, nx_5, nx_6, nxc_0, nxc_1, nxc_2, nxc_3, nxc_4, nxc_5]
        simp only [natOf_iv]
        exact this
      · have heq : gI col2 x = 1 := Decidable.not_not.1 heq
        have wo := wj2.old hlj x3 heq
        refine prP_inc (by omega) ?_
        have := hR2 (j + 1, row2, off2, todo2, _, _) ⟨by simp only; omega, vw2, wo, hms⟩ (by simp only; omega)
        simp only [cnt_tO, cnt_tW, cnt_tP, cnt_tA, cnt_tN, cnt_tI, cnt_tS, cnt1_1, cnt1_0, cnt2_1, cnt3_1, cnt5_1, cnt6_1, cnt8_1, nx_0, nx_1, nx_2, nx_3, nx_4, nx_5, nx_6, nxc_0, nxc_1, nxc_2, nxc_3, nxc_4, nxc_5]
        simp only [natOf_iv]
        exact this
    · have : j = (kidsM os k).length := by omega
      subst this
      have := hR (row2, off2, todo2, cs2, col2) ⟨vw2, wj2.stop⟩ hms
      exact this
  · have : todo = [] := List.length_eq_zero_iff.1 (by omega)
    subst this
    exact h _ _ wk.stop
end Go.Proofs.Ytnhicpkhkaihoaa.P
