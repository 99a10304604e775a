/- A part of the proof. -/
import Derived.Test.YtnhicpkhkaihoaaCgHpI
/- What an operation does. -/
namespace Go.Proofs.Ytnhicpkhkaihoaa.P
open Go Go.Proofs.Ytnhicpkhkaihoaa Go.Proofs.Ytnhicpkhkaihoaa.Eng
set_option linter.unusedVariables false
set_option maxHeartbeats 4000000
set_option linter.unusedVariables false
set_option linter.unusedSimpArgs false
attribute [local irreducible] prP gP gE gF cndP ixW ldc ldg ldl stc stg scW mkW apW loopP cl2 joinP pre2 selW
variable {w0 : World}
/-- The first place that does, or -1. -/
def firstI (n : Nat) (p : Nat → Bool) : Int := match (List.range n).find? p with
  | some i => (i : Int)
  | none => -1
theorem firstI_here {n i : Nat} {p : Nat → Bool} (hi : i < n) (h : p i = true) (hb : ∀ k, k < i → p k = false) : firstI n p = i := by
  have : (List.range n).find? p = some i := List.find?_range_eq_some.2 ⟨h, List.mem_range.2 hi, fun j hj => by rw [hb j hj]; rfl⟩
  rw [firstI, this]
theorem firstI_no {n : Nat} {p : Nat → Bool} (hb : ∀ k, k < n → p k = false) : firstI n p = -1 := by
  have : (List.range n).find? p = none := List.find?_range_eq_none.2 fun j hj => by rw [hb j hj]; rfl
  rw [firstI, this]
theorem firstI_cases (n : Nat) (p : Nat → Bool) : (firstI n p = -1 ∧ ∀ k, k < n → p k = false) ∨ ∃ i, i < n ∧ firstI n p = (i : Int) ∧ p i = true ∧ ∀ k, k < i → p k = false := by
  cases h : (List.range n).find? p with
  | none => exact .inl ⟨by rw [firstI, h], fun k hk => by have := List.find?_range_eq_none.1 h k hk; simpa using this⟩
  | some i =>
    obtain ⟨h1, h2, h3⟩ := List.find?_range_eq_some.1 h
    exact .inr ⟨i, List.mem_range.1 h2, by rw [firstI, h], h1, fun k hk => by have := h3 k hk; simpa using this⟩
def isFree (os : List HObj) (i : Nat) : Bool := !(ob os i).live && decide ((ob os i).gen < 999)
def freeSlot (os : List HObj) : Int := firstI os.length (isFree os)
def freeWk (ws : List Wk) : Int := firstI ws.length fun i => !(wk ws i).used
theorem impl_FreeSlot_c {os : List HObj} {b c d : List T} {K : J2} (hol : os.length = 8) (h : K [I (freeSlot os)] []) : cl2 ⟨Try.prog, w0⟩ 215 impl_FreeSlot.sg [] [tR tO os, b, c, d] K := by
  refine impl_FreeSlot.cl2 ?_
  unfold impl_FreeSlot.txt
  simp only [cnt_tO, cnt_tW, cnt_tP, cnt_tA, cnt_tN, cnt_tI, cnt_tS, cnt1_1, cnt1_0, cnt2_1, cnt3_1, cnt5_1, cnt6_1, cnt8_1, nx_0, nx_1, nx_2, nx_3, nx_4, nx_5, nx_6, nxc_0, nxc_1, nxc_2, nxc_3, nxc_4, nxc_5]
  refine loopP_from (fun i => [iv os.length, iv i]) (fun _ => []) os.length (fun i => ∀ k, k < i → isFree os k = false) rfl rfl (fun k hk => by omega) (fun R i hi hP hR => ?_)
  simp only [cnt_tO, cnt_tW, cnt_tP, cnt_tA, cnt_tN, cnt_tI, cnt_tS, cnt1_1, cnt1_0, cnt2_1, cnt3_1, cnt5_1, cnt6_1, cnt8_1, nx_0, nx_1, nx_2, nx_3, nx_4, nx_5, nx_6, nxc_0, nxc_1, nxc_2, nxc_3, nxc_4, nxc_5]
  refine prP_lss (cndP_d (fun hlt => ?_) fun hge => ?_)
  · have hlt : i < os.length := by omega
    refine ixW_iv hlt (ldg_ob hlt ?_)
    simp only [tvO_0, tvO_1]
    have no : isFree os i = false → R [iv os.length, iv (i + 1)] [] := fun hn => hR hlt fun k hk => (Nat.lt_succ_iff_lt_or_eq.1 hk).elim (hP k) fun he => he ▸ hn
    have yes : isFree os i = true → K [iv i] [] := fun hy => by unfold freeSlot at h; rw [firstI_here hlt hy hP] at h; exact h
    cases hv : (ob os i).live with
    | false =>
      repeat' (first | refine gE_x ?_ | refine gP_TT ?_ | refine gP_yt (by first | with_reducible assumption | omega) ?_ | refine pk_y (by first | with_reducible assumption | omega) rfl ?_ | refine pk_T rfl ?_ | refine prP_lss ?_ | refine prP_inc (by omega) ?_ | refine cndP_d (fun _ => ?_) (fun _ => ?_) | refine prP_not ?_)
      · exact yes (by simp [isFree, hv]; omega)
      · exact no (by simp [isFree, hv]; omega)
    | true =>
      repeat' (first | refine gE_x ?_ | refine gP_FT ?_ | refine gP_yt (by first | with_reducible assumption | omega) ?_ | refine pk_y (by first | with_reducible assumption | omega) rfl ?_ | refine pk_F rfl ?_ | refine cndP_F ?_ | refine prP_lss ?_ | refine prP_inc (by omega) ?_ | refine prP_not ?_)
      all_goals exact no (by simp [isFree, hv])
  · have : i = os.length := by omega
    subst this
    unfold freeSlot at h
    rw [firstI_no hP] at h; exact h
theorem spec_FreeSlot_c {os : List HObj} {b c d : List T} {K : J2} (hol : os.length = 8) (h : K [I (freeSlot os)] []) : cl2 ⟨Try.prog, w0⟩ 191 spec_FreeSlot.sg [] [tR tO os, b, c, d] K := by
  refine spec_FreeSlot.cl2 ?_
  unfold spec_FreeSlot.txt
  simp only [cnt_tO, cnt_tW, cnt_tP, cnt_tA, cnt_tN, cnt_tI, cnt_tS, cnt1_1, cnt1_0, cnt2_1, cnt3_1, cnt5_1, cnt6_1, cnt8_1, nx_0, nx_1, nx_2, nx_3, nx_4, nx_5, nx_6, nxc_0, nxc_1, nxc_2, nxc_3, nxc_4, nxc_5]
  refine loopP_from (fun i => [iv i]) (fun _ => []) os.length (fun i => ∀ k, k < i → isFree os k = false) rfl rfl (fun k hk => by omega) (fun R i hi hP hR => ?_)
  simp only [cnt_tO, cnt_tW, cnt_tP, cnt_tA, cnt_tN, cnt_tI, cnt_tS, cnt1_1, cnt1_0, cnt2_1, cnt3_1, cnt5_1, cnt6_1, cnt8_1, nx_0, nx_1, nx_2, nx_3, nx_4, nx_5, nx_6, nxc_0, nxc_1, nxc_2, nxc_3, nxc_4, nxc_5]
  refine prP_lss (gE_x (gP_dt (fun hlt => ?_) fun hge => ?_))
  · have hlt' : i < os.length := by omega
    refine prP_lss (pk_y hlt rfl (cndP_yes (by omega) ?_))
    have no : isFree os i = false → R [iv (i + 1)] [] := fun hn => hR hlt' fun k hk => (Nat.lt_succ_iff_lt_or_eq.1 hk).elim (hP k) fun he => he ▸ hn
    have yes : isFree os i = true → K [iv i] [] := fun hy => by unfold freeSlot at h; rw [firstI_here hlt' hy hP] at h; exact h
    refine ixW_iv hlt' ?_
    cases hv : (ob os i).live with
    | false =>
      refine ldc_ob0 (v := .bool false) hlt' (by simp [tO, hv]) (prP_not ?_)
      repeat' (first | refine ixW_iv hlt' ?_ | refine ldc_ob (v := I (ob os i).gen) hlt' (by decide) rfl ?_ | refine gE_x ?_ | refine gP_TT ?_ | refine pk_T rfl ?_ | refine prP_lss ?_ | refine prP_inc (by omega) ?_ | refine cndP_d (fun _ => ?_) (fun _ => ?_))
      · exact yes (by simp [isFree, hv]; omega)
      · exact no (by simp [isFree, hv]; omega)
    | true =>
      refine ldc_ob0 (v := .bool true) hlt' (by simp [tO, hv]) (prP_not ?_)
      repeat' (first | refine gE_x ?_ | refine gP_FT ?_ | refine pk_F rfl ?_ | refine cndP_F ?_ | refine prP_inc (by omega) ?_)
      all_goals exact no (by simp [isFree, hv])
  · refine pk_n hge rfl (cndP_F ?_)
    have : i = os.length := by omega
    subst this
    unfold freeSlot at h
    rw [firstI_no hP] at h; exact h
theorem impl_freeWeak_c {ws : List Wk} {K : J2} (hol : ws.length = 8) (h : K [I (freeWk ws)] []) : cl2 ⟨Try.prog, w0⟩ 218 impl_freeWeak.sg [] [tR tW ws] K := by
  refine impl_freeWeak.cl2 ?_
  unfold impl_freeWeak.txt
  simp only [cnt_tO, cnt_tW, cnt_tP, cnt_tA, cnt_tN, cnt_tI, cnt_tS, cnt1_1, cnt1_0, cnt2_1, cnt3_1, cnt5_1, cnt6_1, cnt8_1, nx_0, nx_1, nx_2, nx_3, nx_4, nx_5, nx_6, nxc_0, nxc_1, nxc_2, nxc_3, nxc_4, nxc_5]
  refine loopP_from (fun i => [iv ws.length, iv i]) (fun _ => []) ws.length (fun i => ∀ k, k < i → (!(wk ws k).used) = false) rfl rfl (fun k hk => by omega) (fun R i hi hP hR => ?_)
  simp only [cnt_tO, cnt_tW, cnt_tP, cnt_tA, cnt_tN, cnt_tI, cnt_tS, cnt1_1, cnt1_0, cnt2_1, cnt3_1, cnt5_1, cnt6_1, cnt8_1, nx_0, nx_1, nx_2, nx_3, nx_4, nx_5, nx_6, nxc_0, nxc_1, nxc_2, nxc_3, nxc_4, nxc_5]
  refine prP_lss (cndP_d (fun hlt => ?_) fun hge => ?_)
  · have hlt : i < ws.length := by omega
    refine ixW_iv hlt (ldg_wk hlt ?_)
    simp only [tvW_0]
    cases hv : (wk ws i).used with
    | false =>
      refine prP_not (cndP_T ?_)
      unfold freeWk at h
      rw [firstI_here hlt (by rw [hv]; rfl) hP] at h; exact h
    | true =>
      refine prP_not (cndP_F (prP_inc (by omega) (hR hlt fun k hk => ?_)))
      rcases Nat.lt_succ_iff_lt_or_eq.1 hk with h3 | rfl
      · exact hP k h3
      · rw [hv]; rfl
  · have : i = ws.length := by omega
    subst this
    unfold freeWk at h
    rw [firstI_no hP] at h; exact h
theorem impl_refused_c {n : Int} {K : J2} (h : K [I n, I 0] [[]]) : cl2 ⟨Try.prog, w0⟩ 143 impl_refused.sg [I n] [] K := impl_refused.cl2 h
/-! ### Alloc -/
def newO (g s : Int) : HObj := ⟨true, g, s, 1, 0, 1, none3, false⟩
def allocM (os : List HObj) (ss : List ByteArray) (s : ByteArray) : List HObj × List ByteArray × An :=
  if ¬ (1 ≤ (s.size : Int) ∧ (s.size : Int) ≤ 8) then (os, ss, ⟨2, 0, []⟩)
  else if freeSlot os < 0 then (os, ss, ⟨3, 0, []⟩)
  else if at_ ss s < 0 ∧ 6 ≤ ss.length then (os, ss, ⟨6, 0, []⟩)
  else (os.set (freeSlot os).toNat (newO (w64 ((ob os (freeSlot os).toNat).gen + 1)) (if at_ ss s < 0 then ss.length else at_ ss s)), (if at_ ss s < 0 then ss ++ [s] else ss), ⟨0, idOf (freeSlot os) (w64 ((ob os (freeSlot os).toNat).gen + 1)), []⟩)
theorem freeSlot_bd {os : List HObj} (h : ¬ freeSlot os < 0) : (freeSlot os).toNat < os.length ∧ freeSlot os = ((freeSlot os).toNat : Int) ∧ isFree os (freeSlot os).toNat = true := by
  rcases firstI_cases os.length (isFree os) with ⟨h1, _⟩ | ⟨i, h1, h2, h3, _⟩
  · unfold freeSlot at h; omega
  · have e : freeSlot os = i := h2
    have e2 : (freeSlot os).toNat = i := by omega
    rw [e2]; exact ⟨h1, e, h3⟩
theorem impl_alloc_c {os : List HObj} {b c : List T} {ss : List ByteArray} {s : ByteArray} {K : J2} (hol : os.length = 8) (hsl : ss.length ≤ 6) (h : K [I (allocM os ss s).2.2.code, I (allocM os ss s).2.2.val] [tI (allocM os ss s).2.2.freed, tR tO (allocM os ss s).1, tS (allocM os ss s).2.1]) : cl2 ⟨Try.prog, w0⟩ 183 impl_Heap_alloc.sg [.string s] [tR tO os, b, c, tS ss] K := by
  refine impl_Heap_alloc.cl2 ?_
  unfold impl_Heap_alloc.txt
  refine impl_FreeSlot_c hol (impl_textAt_c (by omega) (joinP_k ?_))
  simp only [cnt_tO, cnt_tW, cnt_tP, cnt_tA, cnt_tN, cnt_tI, cnt_tS, cnt1_1, cnt1_0, cnt2_1, cnt3_1, cnt5_1, cnt6_1, cnt8_1, nx_0, nx_1, nx_2, nx_3, nx_4, nx_5, nx_6, nxc_0, nxc_1, nxc_2, nxc_3, nxc_4, nxc_5]
  unfold allocM at h
  refine prP_lnS (impl_in_d (prP_notd (cndP_d (fun hb => ?_) fun hb => ?_)))
  · rw [if_pos hb] at h
    exact impl_refused_c h
  rw [if_neg hb] at h
  refine prP_lss (cndP_d (fun hf => ?_) fun hf => ?_)
  · rw [if_pos hf] at h
    exact impl_refused_c h
  rw [if_neg hf] at h
  obtain ⟨f1, f2, f3⟩ := freeSlot_bd hf
  refine prP_lss ?_
  by_cases ha : at_ ss s < 0
  · by_cases h6 : 6 ≤ ss.length
    · rw [if_pos ⟨ha, h6⟩] at h
      repeat' (first | exact impl_refused_c h | refine gE_x ?_ | refine gP_yt (by first | with_reducible assumption | omega) ?_ | refine pk_y (by first | with_reducible assumption | omega) rfl ?_ | refine cndP_yes (by first | with_reducible assumption | omega) ?_ | refine prP_leq ?_)
      all_goals omega
    · rw [if_neg (by omega), if_pos ha, if_pos ha] at h
      repeat' (first | refine gE_x ?_ | refine gP_yt (by first | with_reducible assumption | omega) ?_ | refine pk_y (by first | with_reducible assumption | omega) rfl ?_ | refine cndP_yes (by first | with_reducible assumption | omega) ?_ | refine cndP_no (by first | with_reducible assumption | omega) ?_ | refine prP_lss ?_ | refine prP_leq ?_ | refine prP_addw ?_ | refine ixW_c (by omega) (by omega) ?_ | refine ldc_ob (by omega) (by decide) rfl ?_ | refine apW_p (by first | exact flat_tI _ | exact flat_tS _ | exact flat_tW _ | exact flat_tP _ | rfl) (by omega) ?_)
      exact stg_tR (y := newO (w64 ((ob os (freeSlot os).toNat).gen + 1)) ss.length) (by omega) rfl (impl_IdOf_c (by rw [← tS_snoc] at h; exact h))
  · rw [if_neg (by omega), if_neg ha, if_neg ha] at h
    repeat' (first | refine gE_x ?_ | refine gP_nt (by first | with_reducible assumption | omega) ?_ | refine pk_n (by first | with_reducible assumption | omega) rfl ?_ | refine cndP_F ?_ | refine cndP_no (by first | with_reducible assumption | omega) ?_ | refine prP_lss ?_ | refine prP_addw ?_ | refine ixW_c (by omega) (by omega) ?_ | refine ldc_ob (by omega) (by decide) rfl ?_)
    exact stg_tR (y := newO (w64 ((ob os (freeSlot os).toNat).gen + 1)) (at_ ss s)) (by omega) rfl (impl_IdOf_c h)
theorem at_snoc {l : List ByteArray} {x s : ByteArray} (h : x ∉ l) : at_ (l ++ [x]) s = if x = s then (l.length : Int) else at_ l s := by
  unfold at_
  by_cases hs : s ∈ l
  · rw [if_pos (List.mem_append_left _ hs), if_pos hs, List.idxOf_append, if_pos hs, if_neg (show ¬ x = s from fun he => h (he ▸ hs))]
  · by_cases hx : x = s
    · rw [if_pos (by simp [hx]), if_pos hx, List.idxOf_append, if_neg hs]
      simp [hx]
    · rw [if_neg (by simp [hs, Ne.symm hx]), if_neg hx, if_neg hs]
theorem spec_l8Alloc_c {os : List HObj} {b c : List T} {ss : List ByteArray} {s : ByteArray} {k1 k2 k3 k4 : Int} {K : J2} (hol : os.length = 8) (hss : SitesOk ss) (h : K [I (allocM os ss s).2.2.code, I (allocM os ss s).2.2.val] [tR tO (allocM os ss s).1, tS (allocM os ss s).2.1, tI (allocM os ss s).2.2.freed]) : cl2 ⟨Try.prog, w0⟩ 136 spec_l8Alloc.sg [I k1, I k2, I k3, I k4, .string s] [tR tO os, b, c, tS ss] K := by
  have hsl := hss.len
  refine spec_l8Alloc.cl2 ?_
  unfold spec_l8Alloc.txt
  unfold allocM at h
  refine prP_lnS (spec_l1In_d (prP_notd (cndP_d (fun hb => ?_) fun hb => ?_)))
  · rw [if_pos hb] at h
    exact h
  rw [if_neg hb] at h
  refine spec_FreeSlot_c hol (prP_lss (cndP_d (fun hf => ?_) fun hf => ?_))
  · rw [if_pos hf] at h
    exact h
  rw [if_neg hf] at h
  obtain ⟨f1, f2, f3⟩ := freeSlot_bd hf
  refine loopP_from (fun i => [I (freeSlot os), I (at_ (ss.take i) s), iv i, I k1, I k2, I k3, I k4, .string s, I 0, I 0]) (fun _ => [tR tO os, tS ss]) ss.length (fun i => True) rfl rfl trivial (fun R i hi hP hR => ?_)
  simp only [cnt_tO, cnt_tW, cnt_tP, cnt_tA, cnt_tN, cnt_tI, cnt_tS, cnt1_1, cnt1_0, cnt2_1, cnt3_1, cnt5_1, cnt6_1, cnt8_1, nx_0, nx_1, nx_2, nx_3, nx_4, nx_5, nx_6, nxc_0, nxc_1, nxc_2, nxc_3, nxc_4, nxc_5]
  simp only [nx_6, nx_7, nx_8, nx_9]
  refine prP_lss (cndP_d (fun hlt => ?_) fun hge => ?_)
  · have hlt : i < ss.length := by omega
    replace hR := hR hlt trivial
    have hone := hss.one i hlt
    rw [List.take_succ_eq_append_getElem hlt, gS_eq hlt, at_snoc hone] at hR
    refine joinP_k (ixW_iv hlt (ldS hlt (prP_eqSd (cndP_d (fun he => ?_) fun he => ?_))))
    · rw [if_pos he, List.length_take, Nat.min_eq_left hi] at hR
      exact prP_inc (by omega) hR
    · rw [if_neg he] at hR
      exact prP_inc (by omega) hR
  · have : i = ss.length := by omega
    subst this
    rw [List.take_length]
    refine prP_lss ?_
    by_cases ha : at_ ss s < 0
    · by_cases h6 : 6 ≤ ss.length
      · rw [if_pos ⟨ha, h6⟩] at h
        repeat' (first | exact h | refine gE_x ?_ | refine gP_yt (by first | with_reducible assumption | omega) ?_ | refine pk_y (by first | with_reducible assumption | omega) rfl ?_ | refine cndP_yes (by first | with_reducible assumption | omega) ?_ | refine prP_leq ?_)
        all_goals omega
      · rw [if_neg (by omega), if_pos ha, if_pos ha] at h
        refine gE_x (gE_x (gE_x (gP_yt ha (prP_geq (pk_y ha rfl (cndP_no (by omega) (joinP_k (prP_lss (cndP_yes ha (apW_p rfl (by omega) ?_)))))))))) 
        repeat' (first | refine spec_l5None_c ?_ | refine prP_addw ?_ | refine ixW_c (by omega) (by omega) ?_ | refine ldc_ob (by omega) (by decide) rfl ?_ | simp only [cnt_tO, cnt_tW, cnt_tP, cnt_tA, cnt_tN, cnt_tI, cnt_tS, cnt1_1, cnt1_0, cnt2_1, cnt3_1, cnt5_1, cnt6_1, cnt8_1, nx_0, nx_1, nx_2, nx_3, nx_4, nx_5, nx_6, nxc_0, nxc_1, nxc_2, nxc_3, nxc_4, nxc_5])
        rw [← tS_snoc] at h
        exact stg_tR (y := newO (w64 ((ob os (freeSlot os).toNat).gen + 1)) ss.length) (by omega) rfl (spec_IdOf_c h)
    · rw [if_neg (by omega), if_neg ha, if_neg ha] at h
      refine gE_x (gE_x (gE_x (gP_nt ha (pk_n ha rfl (cndP_F (joinP_k (prP_lss (cndP_no (by omega) ?_)))))))) 
      repeat' (first | refine spec_l5None_c ?_ | refine prP_addw ?_ | refine ixW_c (by omega) (by omega) ?_ | refine ldc_ob (by omega) (by decide) rfl ?_ | simp only [cnt_tO, cnt_tW, cnt_tP, cnt_tA, cnt_tN, cnt_tI, cnt_tS, cnt1_1, cnt1_0, cnt2_1, cnt3_1, cnt5_1, cnt6_1, cnt8_1, nx_0, nx_1, nx_2, nx_3, nx_4, nx_5, nx_6, nxc_0, nxc_1, nxc_2, nxc_3, nxc_4, nxc_5])
      exact stg_tR (y := newO (w64 ((ob os (freeSlot os).toNat).gen + 1)) (at_ ss s)) (by omega) rfl (spec_IdOf_c h)
/-! ### Holding, rooting -/
def loseA (r : List HObj × List Int × List Int) : List HObj × List Int × An := (r.1, r.2.1, ⟨0, 0, r.2.2⟩)
def holdM (os : List HObj) (buf : List Int) (kind id : Int) : List HObj × List Int × An :=
  if slotOf os id < 0 then (os, buf, ⟨1, 0, []⟩) else
  if kind = 2 then
    if (ob os (slotOf os id).toNat).holds = 20 then (os, buf, ⟨4, 0, []⟩) else (gainM (os.set (slotOf os id).toNat { ob os (slotOf os id).toNat with holds := (ob os (slotOf os id).toNat).holds + 1 }) id, buf, ⟨0, 0, []⟩)
  else if kind = 5 then
    if (ob os (slotOf os id).toNat).roots = 20 then (os, buf, ⟨4, 0, []⟩) else (gainM (os.set (slotOf os id).toNat { ob os (slotOf os id).toNat with roots := (ob os (slotOf os id).toNat).roots + 1 }) id, buf, ⟨0, 0, []⟩)
  else if kind = 3 then
    if (ob os (slotOf os id).toNat).holds = 0 then (os, buf, ⟨5, 0, []⟩) else loseA (loseM (os.set (slotOf os id).toNat { ob os (slotOf os id).toNat with holds := (ob os (slotOf os id).toNat).holds - 1 }) buf [id])
  else
    if (ob os (slotOf os id).toNat).roots = 0 then (os, buf, ⟨5, 0, []⟩) else loseA (loseM (os.set (slotOf os id).toNat { ob os (slotOf os id).toNat with roots := (ob os (slotOf os id).toNat).roots - 1 }) buf [id])
theorem stH {os : List HObj} {k : Nat} {v : Int} {K : List T → Prop} (hk : k < os.length) (h : K (tR tO (os.set k { ob os k with holds := v }))) : stc (tR tO os) [] (natOf (iv (natOf (iv k) * 8 + 3))) (I v) K := by
  rw [natOf_iv (natOf (iv k) * 8 + 3), ← ob_eq hk] at *; exact stO_holds hk h
theorem stR {os : List HObj} {k : Nat} {v : Int} {K : List T → Prop} (hk : k < os.length) (h : K (tR tO (os.set k { ob os k with roots := v }))) : stc (tR tO os) [] (natOf (iv (natOf (iv k) * 8 + 4))) (I v) K := by
  rw [natOf_iv (natOf (iv k) * 8 + 4), ← ob_eq hk] at *; exact stc_tR hk (by decide) rfl rfl h
theorem impl_counted_c {os : List HObj} {buf : List Int} {b d : List T} {kind id : Int} {K : J2} (hol : os.length = 8) (hof : ∀ o ∈ os, OF o) (hb : buf.length ≤ 100) (hid : F64 id) (hkd : kind = 2 ∨ kind = 3 ∨ kind = 5 ∨ kind = 6) (hr : ∀ i, (0 ≤ (ob os i).holds ∧ (ob os i).holds ≤ 20) ∧ (0 ≤ (ob os i).roots ∧ (ob os i).roots ≤ 20)) (h : K [I (holdM os buf kind id).2.2.code, I (holdM os buf kind id).2.2.val] [tI (holdM os buf kind id).2.2.freed, tR tO (holdM os buf kind id).1, tI (holdM os buf kind id).2.1]) : cl2 ⟨Try.prog, w0⟩ 184 impl_Heap_counted.sg [I kind, I id] [tR tO os, b, tI buf, d] K := by
  refine impl_Heap_counted.cl2 ?_
  unfold impl_Heap_counted.txt
  simp only [cnt_tO, cnt_tW, cnt_tP, cnt_tA, cnt_tN, cnt_tI, cnt_tS, cnt1_1, cnt1_0, cnt2_1, cnt3_1, cnt5_1, cnt6_1, cnt8_1, nx_0, nx_1, nx_2, nx_3, nx_4, nx_5, nx_6, nxc_0, nxc_1, nxc_2, nxc_3, nxc_4, nxc_5]
  unfold holdM at h
  refine impl_SlotOf_c hid (by omega) (prP_lss (cndP_d (fun hs => ?_) fun hs => ?_))
  · rw [if_pos hs] at h
    exact impl_refused_c h
  rw [if_neg hs] at h
  have hkb := slotOf_bd (l := os) (id := id) (by omega)
  obtain ⟨k, hkk⟩ : ∃ k, (slotOf os id).toNat = k := ⟨_, rfl⟩
  have hkI : slotOf os id = (k : Int) := by omega
  rw [hkk] at h hkb
  have hkl : k < os.length := by omega
  have hrk := hr k
  have ho := hof _ (ob_mem (l := os) (i := k) (by omega))
  obtain ⟨⟨r1, r2⟩, r3, r4⟩ := hrk
  rw [nx_0, hkI]
  refine ixW_iv (by omega) (joinP_k ?_)
  simp only [cnt_tO, cnt_tW, cnt_tP, cnt_tA, cnt_tN, cnt_tI, cnt_tS, cnt1_1, cnt1_0, cnt2_1, cnt3_1, cnt5_1, cnt6_1, cnt8_1, nx_0, nx_1, nx_2, nx_3, nx_4, nx_5, nx_6, nxc_0, nxc_1, nxc_2, nxc_3, nxc_4, nxc_5]
  rcases hkd with rfl | rfl | rfl | rfl
  · simp only [if_true] at h
    repeat' (first | refine gE_x ?_ | refine gP_FF ?_ | refine gP_TF ?_ | refine pk_y (by first | with_reducible assumption | omega) rfl ?_ | refine pk_n (by first | with_reducible assumption | omega) rfl ?_ | refine cndP_T ?_ | refine cndP_F ?_ | refine prP_eqd ?_ | refine prP_add ⟨by omega, by omega⟩ ?_ | refine ldc_ob (by omega) (by decide) rfl ?_ | refine cndP_d (fun _ => ?_) (fun _ => ?_))
    · rename_i h20
      rw [if_pos h20] at h
      exact impl_refused_c h
    · rename_i h20
      rw [if_neg h20] at h
      exact stH hkl (impl_gain_c hid (by simpa using hol) h)
  · simp only [if_neg (show ¬ (3 : Int) = 2 by decide), if_neg (show ¬ (3 : Int) = 5 by decide), if_true] at h
    repeat' (first | refine gE_x ?_ | refine gP_FF ?_ | refine pk_n (by first | with_reducible assumption | omega) rfl ?_ | refine cndP_F ?_ | refine prP_eqd ?_ | refine prP_add ⟨by omega, by omega⟩ ?_ | refine ldc_ob (by omega) (by decide) rfl ?_ | refine cndP_d (fun _ => ?_) (fun _ => ?_))
    · rename_i h20
      rw [if_pos h20] at h
      exact impl_refused_c h
    · rename_i h20
      rw [if_neg h20] at h
      exact stH hkl (impl_lose_c (buf := buf) (ids := [id]) (by simpa using hol) (of_set hof ⟨ho.gen, ho.len, ho.fld⟩) (by omega) (by simp) (by simpa using hid) h)
  · simp only [if_neg (show ¬ (5 : Int) = 2 by decide), if_true] at h
    repeat' (first | refine gE_x ?_ | refine gP_FF ?_ | refine gP_TF ?_ | refine pk_y (by first | with_reducible assumption | omega) rfl ?_ | refine pk_n (by first | with_reducible assumption | omega) rfl ?_ | refine cndP_T ?_ | refine prP_eqd ?_ | refine prP_add ⟨by omega, by omega⟩ ?_ | refine ixW_iv (by omega) ?_ | refine ldc_ob (by omega) (by decide) rfl ?_ | refine cndP_d (fun _ => ?_) (fun _ => ?_))
    · rename_i h20
      rw [if_pos h20] at h
      exact impl_refused_c h
    · rename_i h20
      rw [if_neg h20] at h
      exact stR hkl (impl_gain_c hid (by simpa using hol) h)
  · simp only [if_neg (show ¬ (6 : Int) = 2 by decide), if_neg (show ¬ (6 : Int) = 5 by decide), if_neg (show ¬ (6 : Int) = 3 by decide)] at h
    repeat' (first | refine gE_x ?_ | refine gP_FF ?_ | refine pk_n (by first | with_reducible assumption | omega) rfl ?_ | refine cndP_T ?_ | refine cndP_F ?_ | refine prP_eqd ?_ | refine prP_add ⟨by omega, by omega⟩ ?_ | refine ixW_iv (by omega) ?_ | refine ldc_ob (by omega) (by decide) rfl ?_ | refine cndP_d (fun _ => ?_) (fun _ => ?_))
    · rename_i h20
      rw [if_pos h20] at h
      exact impl_refused_c h
    · rename_i h20
      rw [if_neg h20] at h
      exact stR hkl (impl_lose_c (buf := buf) (ids := [id]) (by simpa using hol) (of_set hof ⟨ho.gen, ho.len, ho.fld⟩) (by omega) (by simp) (by simpa using hid) h)
theorem stH1 {os : List HObj} {k : Nat} {v : Int} {K : List T → Prop} (hk : k < os.length) (h : K (tR tO (os.set k { ob os k with holds := v }))) : stc (tR tO os) [] (natOf (iv k) * 8 + 3) (I v) K := by
  rw [← ob_eq hk] at h; exact stO_holds hk h
theorem stR1 {os : List HObj} {k : Nat} {v : Int} {K : List T → Prop} (hk : k < os.length) (h : K (tR tO (os.set k { ob os k with roots := v }))) : stc (tR tO os) [] (natOf (iv k) * 8 + 4) (I v) K := by
  rw [← ob_eq hk] at h; exact stc_tR hk (by decide) rfl rfl h
theorem St.set {h : Hp} {os : List HObj} (st : St h) (hl : os.length = h.objs.length) (ho : ∀ o ∈ os, OF o) : St { h with objs := os } := ⟨by have := st.ol; simp only; omega, st.wl, st.sl, st.bl, ho, st.ss, st.wf, st.bf⟩
theorem spec_l8Hold_c {h : Hp} {kind id b c : Int} {s : ByteArray} {K : J2} (st : St h) (hid : F64 id) (hkd : kind = 2 ∨ kind = 3 ∨ kind = 5 ∨ kind = 6) (hr : ∀ i, (0 ≤ (ob h.objs i).holds ∧ (ob h.objs i).holds ≤ 20) ∧ (0 ≤ (ob h.objs i).roots ∧ (ob h.objs i).roots ≤ 20)) (hK : K [I (holdM h.objs h.buffer kind id).2.2.code, I (holdM h.objs h.buffer kind id).2.2.val] [tR tO (holdM h.objs h.buffer kind id).1, tR tW h.weaks, tI (holdM h.objs h.buffer kind id).2.1, tS h.sites, tI (holdM h.objs h.buffer kind id).2.2.freed]) : cl2 ⟨Try.prog, w0⟩ 137 spec_l8Hold.sg [I kind, I id, I b, I c, .string s] (trees h) K := by
  refine spec_l8Hold.cl2 ?_
  unfold spec_l8Hold.txt
  obtain ⟨os, ws, buf, ss⟩ := h
  have hol : os.length = 8 := st.ol
  have hof : ∀ o ∈ os, OF o := st.of
  simp only at hr hK
  simp only [trees]
  simp only [cnt_tO, cnt_tW, cnt_tP, cnt_tA, cnt_tN, cnt_tI, cnt_tS, cnt1_1, cnt1_0, cnt2_1, cnt3_1, cnt5_1, cnt6_1, cnt8_1, nx_0, nx_1, nx_2, nx_3, nx_4, nx_5, nx_6, nxc_0, nxc_1, nxc_2, nxc_3, nxc_4, nxc_5]
  unfold holdM at hK
  refine spec_SlotOf_c hid (by omega) (prP_lss (cndP_d (fun hs => ?_) fun hs => ?_))
  · rw [if_pos hs] at hK
    exact hK
  rw [if_neg hs] at hK
  have hkb := slotOf_bd (l := os) (id := id) (by omega)
  obtain ⟨k, hkk⟩ : ∃ k, (slotOf os id).toNat = k := ⟨_, rfl⟩
  have hkI : slotOf os id = (k : Int) := by omega
  rw [hkk] at hK hkb
  have hkl : k < os.length := by omega
  have hrk := hr k
  have ho := hof _ (ob_mem (l := os) (i := k) (by omega))
  obtain ⟨⟨r1, r2⟩, r3, r4⟩ := hrk
  rw [nx_0, hkI]
  refine ixW_iv (by omega) (ldg_ob hkl (joinP_k (joinP_k ?_)))
  simp only [tvO_0, tvO_1, tvO_2, tvO_3, tvO_4, tvO_5, tvO_7]
  have gn : ∀ {os' : List HObj} {K : J2}, os'.length = os.length → (∀ o ∈ os', OF o) → K [] [tR tO (gainM os' id), tR tW ws, tI buf, tS ss] → cl2 ⟨Try.prog, w0⟩ 192 spec_Gain.sg [I id] [tR tO os', tR tW ws, tI buf, tS ss] K := fun hl ho hk => spec_Gain_c (St.set st hl ho) hid hk
  have ls : ∀ {os' : List HObj} {K : J2}, os'.length = os.length → (∀ o ∈ os', OF o) → K [] [tR tO (loseM os' buf [id]).1, tR tW ws, tI (loseM os' buf [id]).2.1, tS ss, tI (loseM os' buf [id]).2.2] → cl2 ⟨Try.prog, w0⟩ 193 spec_Lose.sg [] [tR tO os', tR tW ws, tI buf, tS ss, tI [id]] K := fun hl ho hk => spec_Lose_c (St.set st hl ho) (by simp) (by simpa using hid) hk
  rcases hkd with rfl | rfl | rfl | rfl
  · simp only [if_true] at hK
    by_cases h20 : (ob os k).holds = 20
    · rw [if_pos h20] at hK
      repeat' (first | refine gE_x ?_ | refine gP_TT ?_ | refine pk_y (by first | with_reducible assumption | omega) rfl ?_ | refine cndP_yes (by first | with_reducible assumption | omega) ?_ | refine prP_leq ?_ | refine prP_eqd ?_ | simp only [cnt_tO, cnt_tW, cnt_tP, cnt_tA, cnt_tN, cnt_tI, cnt_tS, cnt1_1, cnt1_0, cnt2_1, cnt3_1, cnt5_1, cnt6_1, cnt8_1, nx_0, nx_1, nx_2, nx_3, nx_4, nx_5, nx_6, nxc_0, nxc_1, nxc_2, nxc_3, nxc_4, nxc_5])
      exact hK
    · rw [if_neg h20] at hK
      repeat' (first | refine joinP_k ?_ | refine gE_x ?_ | refine gP_TT ?_ | refine gP_FT ?_ | refine pk_y (by first | with_reducible assumption | omega) rfl ?_ | refine pk_n (by first | with_reducible assumption | omega) rfl ?_ | refine cndP_T ?_ | refine cndP_F ?_ | refine cndP_no (by first | with_reducible assumption | omega) ?_ | refine prP_leq ?_ | refine prP_eqd ?_ | refine prP_add ⟨by omega, by omega⟩ ?_ | refine ixW_iv (by omega) ?_ | simp only [cnt_tO, cnt_tW, cnt_tP, cnt_tA, cnt_tN, cnt_tI, cnt_tS, cnt1_1, cnt1_0, cnt2_1, cnt3_1, cnt5_1, cnt6_1, cnt8_1, nx_0, nx_1, nx_2, nx_3, nx_4, nx_5, nx_6, nxc_0, nxc_1, nxc_2, nxc_3, nxc_4, nxc_5])
      exact stH1 hkl (gn (by simp) (of_set hof ⟨ho.gen, ho.len, ho.fld⟩) hK)
  · simp only [if_neg (show ¬ (3 : Int) = 2 by decide), if_neg (show ¬ (3 : Int) = 5 by decide), if_true] at hK
    by_cases h20 : (ob os k).holds = 0
    · rw [if_pos h20] at hK
      repeat' (first | refine joinP_k ?_ | refine gE_x ?_ | refine gP_TT ?_ | refine gP_FT ?_ | refine pk_y (by first | with_reducible assumption | omega) rfl ?_ | refine pk_n (by first | with_reducible assumption | omega) rfl ?_ | refine cndP_F ?_ | refine cndP_yes (by first | with_reducible assumption | omega) ?_ | refine prP_lss ?_ | refine prP_eqd ?_ | simp only [cnt_tO, cnt_tW, cnt_tP, cnt_tA, cnt_tN, cnt_tI, cnt_tS, cnt1_1, cnt1_0, cnt2_1, cnt3_1, cnt5_1, cnt6_1, cnt8_1, nx_0, nx_1, nx_2, nx_3, nx_4, nx_5, nx_6, nxc_0, nxc_1, nxc_2, nxc_3, nxc_4, nxc_5])
      exact hK
    · rw [if_neg h20] at hK
      repeat' (first | refine joinP_k ?_ | refine gE_x ?_ | refine gP_TT ?_ | refine gP_FT ?_ | refine pk_y (by first | with_reducible assumption | omega) rfl ?_ | refine pk_n (by first | with_reducible assumption | omega) rfl ?_ | refine cndP_T ?_ | refine cndP_F ?_ | refine cndP_no (by first | with_reducible assumption | omega) ?_ | refine prP_lss ?_ | refine prP_eqd ?_ | refine prP_add ⟨by omega, by omega⟩ ?_ | refine ixW_iv (by omega) ?_ | simp only [cnt_tO, cnt_tW, cnt_tP, cnt_tA, cnt_tN, cnt_tI, cnt_tS, cnt1_1, cnt1_0, cnt2_1, cnt3_1, cnt5_1, cnt6_1, cnt8_1, nx_0, nx_1, nx_2, nx_3, nx_4, nx_5, nx_6, nxc_0, nxc_1, nxc_2, nxc_3, nxc_4, nxc_5])
      exact stH1 hkl (ls (by simp) (of_set hof ⟨ho.gen, ho.len, ho.fld⟩) hK)
  · simp only [if_neg (show ¬ (5 : Int) = 2 by decide), if_true] at hK
    by_cases h20 : (ob os k).roots = 20
    · rw [if_pos h20] at hK
      repeat' (first | refine gE_x ?_ | refine gP_TT ?_ | refine gP_FT ?_ | refine pk_y (by first | with_reducible assumption | omega) rfl ?_ | refine pk_n (by first | with_reducible assumption | omega) rfl ?_ | refine cndP_F ?_ | refine cndP_yes (by first | with_reducible assumption | omega) ?_ | refine prP_leq ?_ | refine prP_eqd ?_ | simp only [cnt_tO, cnt_tW, cnt_tP, cnt_tA, cnt_tN, cnt_tI, cnt_tS, cnt1_1, cnt1_0, cnt2_1, cnt3_1, cnt5_1, cnt6_1, cnt8_1, nx_0, nx_1, nx_2, nx_3, nx_4, nx_5, nx_6, nxc_0, nxc_1, nxc_2, nxc_3, nxc_4, nxc_5])
      exact hK
    · rw [if_neg h20] at hK
      repeat' (first | refine joinP_k ?_ | refine gE_x ?_ | refine gP_TT ?_ | refine gP_FT ?_ | refine pk_y (by first | with_reducible assumption | omega) rfl ?_ | refine pk_n (by first | with_reducible assumption | omega) rfl ?_ | refine cndP_T ?_ | refine cndP_F ?_ | refine cndP_no (by first | with_reducible assumption | omega) ?_ | refine prP_leq ?_ | refine prP_eqd ?_ | refine prP_add ⟨by omega, by omega⟩ ?_ | refine ixW_iv (by omega) ?_ | simp only [cnt_tO, cnt_tW, cnt_tP, cnt_tA, cnt_tN, cnt_tI, cnt_tS, cnt1_1, cnt1_0, cnt2_1, cnt3_1, cnt5_1, cnt6_1, cnt8_1, nx_0, nx_1, nx_2, nx_3, nx_4, nx_5, nx_6, nxc_0, nxc_1, nxc_2, nxc_3, nxc_4, nxc_5])
      exact stR1 hkl (gn (by simp) (of_set hof ⟨ho.gen, ho.len, ho.fld⟩) hK)
  · simp only [if_neg (show ¬ (6 : Int) = 2 by decide), if_neg (show ¬ (6 : Int) = 5 by decide), if_neg (show ¬ (6 : Int) = 3 by decide)] at hK
    by_cases h20 : (ob os k).roots = 0
    · rw [if_pos h20] at hK
      repeat' (first | refine joinP_k ?_ | refine gE_x ?_ | refine gP_TT ?_ | refine gP_FT ?_ | refine pk_y (by first | with_reducible assumption | omega) rfl ?_ | refine pk_n (by first | with_reducible assumption | omega) rfl ?_ | refine cndP_F ?_ | refine cndP_yes (by first | with_reducible assumption | omega) ?_ | refine prP_lss ?_ | refine prP_eqd ?_ | simp only [cnt_tO, cnt_tW, cnt_tP, cnt_tA, cnt_tN, cnt_tI, cnt_tS, cnt1_1, cnt1_0, cnt2_1, cnt3_1, cnt5_1, cnt6_1, cnt8_1, nx_0, nx_1, nx_2, nx_3, nx_4, nx_5, nx_6, nxc_0, nxc_1, nxc_2, nxc_3, nxc_4, nxc_5])
      exact hK
    · rw [if_neg h20] at hK
      repeat' (first | refine joinP_k ?_ | refine gE_x ?_ | refine gP_TT ?_ | refine gP_FT ?_ | refine pk_y (by first | with_reducible assumption | omega) rfl ?_ | refine pk_n (by first | with_reducible assumption | omega) rfl ?_ | refine cndP_F ?_ | refine cndP_no (by first | with_reducible assumption | omega) ?_ | refine prP_lss ?_ | refine prP_eqd ?_ | refine prP_add ⟨by omega, by omega⟩ ?_ | refine ixW_iv (by omega) ?_ | simp only [cnt_tO, cnt_tW, cnt_tP, cnt_tA, cnt_tN, cnt_tI, cnt_tS, cnt1_1, cnt1_0, cnt2_1, cnt3_1, cnt5_1, cnt6_1, cnt8_1, nx_0, nx_1, nx_2, nx_3, nx_4, nx_5, nx_6, nxc_0, nxc_1, nxc_2, nxc_3, nxc_4, nxc_5])
      exact stR1 hkl (ls (by simp) (of_set hof ⟨ho.gen, ho.len, ho.fld⟩) hK)
end Go.Proofs.Ytnhicpkhkaihoaa.P
/- Storing, weak handles. -/
namespace Go.Proofs.Ytnhicpkhkaihoaa.P
open Go Go.Proofs.Ytnhicpkhkaihoaa Go.Proofs.Ytnhicpkhkaihoaa.Eng
set_option linter.unusedVariables false
set_option maxHeartbeats 4000000
set_option linter.unusedVariables false
set_option linter.unusedSimpArgs false
attribute [local irreducible] prP gP gE gF cndP ixW ldc ldg ldl stc stg scW mkW apW loopP cl2 joinP pre2 selW
variable {w0 : World}
def storeM (os : List HObj) (buf : List Int) (a b c : Int) : List HObj × List Int × An :=
  if slotOf os a < 0 ∨ (c ≠ -1 ∧ slotOf os c < 0) then (os, buf, ⟨1, 0, []⟩) else
  if ¬ (0 ≤ b ∧ b ≤ 2) then (os, buf, ⟨2, 0, []⟩) else
  if gI (ob os (slotOf os a).toNat).field b.toNat = -1 then
    ((gainM os c).set (slotOf os a).toNat { ob (gainM os c) (slotOf os a).toNat with field := (ob os (slotOf os a).toNat).field.set b.toNat c }, buf, ⟨0, 0, []⟩)
  else loseA (loseM ((gainM os c).set (slotOf os a).toNat { ob (gainM os c) (slotOf os a).toNat with field := (ob os (slotOf os a).toNat).field.set b.toNat c }) buf [gI (ob os (slotOf os a).toNat).field b.toNat])
theorem ob_set {l : List HObj} {i k : Nat} {o : HObj} (hk : k < l.length) : ob (l.set k o) i = if i = k then o else ob l i := by
  unfold ob
  by_cases h : i = k
  · subst h
    rw [if_pos rfl, List.getD_eq_getElem?_getD, List.getElem?_set_self hk]; rfl
  · rw [if_neg h, List.getD_eq_getElem?_getD, List.getElem?_set_ne (Ne.symm h), List.getD_eq_getElem?_getD]
theorem gainM_ob {os : List HObj} {id : Int} {i : Nat} : (ob (gainM os id) i).live = (ob os i).live ∧ (ob (gainM os id) i).gen = (ob os i).gen ∧ (ob (gainM os id) i).site = (ob os i).site ∧ (ob (gainM os id) i).holds = (ob os i).holds ∧ (ob (gainM os id) i).roots = (ob os i).roots ∧ (ob (gainM os id) i).field = (ob os i).field ∧ (ob (gainM os id) i).purple = (ob os i).purple := by
  unfold gainM
  split
  · exact ⟨rfl, rfl, rfl, rfl, rfl, rfl, rfl⟩
  · have hk := slotOf_bd (l := os) (id := id) (by omega)
    rw [ob_set (by omega)]
    split
    · rename_i h; subst h; exact ⟨rfl, rfl, rfl, rfl, rfl, rfl, rfl⟩
    · exact ⟨rfl, rfl, rfl, rfl, rfl, rfl, rfl⟩
theorem stF {os : List HObj} {k j : Nat} {v : Int} {K : List T → Prop} (hk : k < os.length) (hj : j < (ob os k).field.length) (h : K (tR tO (os.set k { ob os k with field := (ob os k).field.set j v }))) : stc (tR tO os) [natOf (iv k) * 8 + 6] (natOf (iv j) * 1) (I v) K := by
  rw [← ob_eq hk] at h hj; exact stO_field hk hj h
theorem OF.put {o : HObj} {m : List Int} (h : OF o) (hl : m.length = 3) (hf : ∀ x ∈ m, F64 x) : OF { o with field := m } := ⟨h.gen, hl, hf⟩
theorem impl_store_c {os : List HObj} {buf : List Int} {b d : List T} {a0 a1 a2 a3 : Int} {s : ByteArray} {K : J2} (hol : os.length = 8) (hof : ∀ o ∈ os, OF o) (hb : buf.length ≤ 100) (h1 : F64 a1) (h3 : F64 a3) (h : K [I (storeM os buf a1 a2 a3).2.2.code, I (storeM os buf a1 a2 a3).2.2.val] [tI (storeM os buf a1 a2 a3).2.2.freed, tR tO (storeM os buf a1 a2 a3).1, tI (storeM os buf a1 a2 a3).2.1]) : cl2 ⟨Try.prog, w0⟩ 185 impl_Heap_store.sg [I a0, I a1, I a2, I a3, .string s] [tR tO os, b, tI buf, d] K := by
  refine impl_Heap_store.cl2 ?_
  unfold impl_Heap_store.txt
  unfold storeM at h
  refine impl_SlotOf_c h1 (by omega) ?_
  by_cases hs : slotOf os a1 < 0
  · rw [if_pos (.inl hs)] at h
    repeat' (first | exact impl_refused_c h | refine gE_x ?_ | refine gE_su ?_ | refine gP_syf (by first | with_reducible assumption | omega) ?_ | refine gP_yf (by first | with_reducible assumption | omega) ?_ | refine pk_y (by first | with_reducible assumption | omega) rfl ?_ | refine cndP_T ?_ | refine prP_lss ?_)
  have hkb := slotOf_bd (l := os) (id := a1) (by omega)
  by_cases hc : a3 ≠ -1 ∧ slotOf os a3 < 0
  · obtain ⟨hc1, hc2⟩ := hc
    rw [if_pos (.inr ⟨hc1, hc2⟩)] at h
    repeat' (first | refine impl_SlotOf_c h3 (by omega) ?_ | exact impl_refused_c h | refine gE_x ?_ | refine gE_sb ?_ | refine gP_snf (by first | with_reducible assumption | omega) ?_ | refine gP_yt (by first | with_reducible assumption | omega) ?_ | refine gP_nf (by first | with_reducible assumption | omega) ?_ | refine pk_y (by first | with_reducible assumption | omega) rfl ?_ | refine pk_n (by first | with_reducible assumption | omega) rfl ?_ | refine cndP_yes (by first | with_reducible assumption | omega) ?_ | refine prP_lss ?_ | refine prP_ned ?_)
  rw [if_neg (by omega)] at h
  by_cases hb2 : ¬ (0 ≤ a2 ∧ a2 ≤ 2)
  · rw [if_pos hb2] at h
    repeat' (first | refine impl_SlotOf_c h3 (by omega) ?_ | refine impl_in_d ?_ | exact impl_refused_c h | refine gE_x ?_ | refine gE_sb ?_ | refine gP_snf (by first | with_reducible assumption | omega) ?_ | refine gP_yt (by first | with_reducible assumption | omega) ?_ | refine gP_nt (by first | with_reducible assumption | omega) ?_ | refine gP_nf (by first | with_reducible assumption | omega) ?_ | refine pk_y (by first | with_reducible assumption | omega) rfl ?_ | refine pk_n (by first | with_reducible assumption | omega) rfl ?_ | refine cndP_F ?_ | refine cndP_yes (by first | with_reducible assumption | omega) ?_ | refine cndP_no (by first | with_reducible assumption | omega) ?_ | refine prP_lss ?_ | refine prP_ned ?_ | refine prP_notd ?_ | refine gP_dt (fun _ => ?_) (fun _ => ?_))
  rw [if_neg hb2] at h
  obtain ⟨k, hkk⟩ : ∃ k, (slotOf os a1).toNat = k := ⟨_, rfl⟩
  have hkI : slotOf os a1 = (k : Int) := by omega
  rw [hkk] at h hkb
  obtain ⟨j, rfl⟩ : ∃ j : Nat, a2 = j := ⟨a2.toNat, by omega⟩
  rw [Int.toNat_natCast] at h
  have hkl : k < os.length := by omega
  have ho := hof _ (ob_mem (l := os) (i := k) (by omega))
  obtain ⟨_, _, _, _, _, gf, _⟩ := gainM_ob (os := os) (id := a3) (i := k)
  have gl := gainM_len os a3
  have gof := gainM_of (id := a3) hof
  have jl : j < (ob os k).field.length := by rw [ho.len]; omega
  rw [hkI]
  repeat' (first | refine impl_SlotOf_c h3 (by omega) ?_ | refine impl_in_d ?_ | refine impl_gain_c h3 hol ?_ | refine gE_x ?_ | refine gE_sb ?_ | refine gP_sFf ?_ | refine gP_FF ?_ | refine gP_yt (by first | with_reducible assumption | omega) ?_ | refine gP_nt (by first | with_reducible assumption | omega) ?_ | refine pk_y (by first | with_reducible assumption | omega) rfl ?_ | refine pk_n (by first | with_reducible assumption | omega) rfl ?_ | refine cndP_F ?_ | refine cndP_no (by first | with_reducible assumption | omega) ?_ | refine prP_lss ?_ | refine prP_ned ?_ | refine prP_notd ?_ | refine ixW_iv (by omega) ?_ | refine ldl_ob (by omega) ?_ | refine gP_dt (fun _ => ?_) (fun _ => ?_) | simp only [cnt_tO, cnt_tW, cnt_tP, cnt_tA, cnt_tN, cnt_tI, cnt_tS, cnt1_1, cnt1_0, cnt2_1, cnt3_1, cnt5_1, cnt6_1, cnt8_1, nx_0, nx_1, nx_2, nx_3, nx_4, nx_5, nx_6, nxc_0, nxc_1, nxc_2, nxc_3, nxc_4, nxc_5])
  all_goals
    refine ixW_iv (by rw [sub_ob (by omega), cnt_tI, gf]; exact jl) (ldf_ob (by omega) (by rw [gf]; exact jl) (ixW_iv (by omega) ?_))
    rw [gf]
    refine ldl_tR (f := tO) (i := k) (by omega) (by decide) rfl ?_
    refine ixW_iv (by rw [sub_ob (by omega), cnt_tI, gf]; exact jl) (stF (by omega) (by rw [gf]; exact jl) ?_)
    rw [gf]
    refine prP_eqd (cndP_d (fun he => ?_) fun he => ?_)
    · rw [if_pos he] at h; exact h
    · rw [if_neg he] at h
      exact impl_lose_c (buf := buf) (ids := [gI (ob os k).field j]) (by simpa using gl.trans hol) (of_set gof (OF.put (gof _ (ob_mem (by omega))) (by rw [List.length_set]; exact ho.len) fun x hx => (List.mem_or_eq_of_mem_set hx).elim (ho.fld x) fun he => he ▸ h3)) (by omega) (by simp) (by simpa using ho.fld _ (gI_mem jl)) h
theorem spec_l8Store_c {h : Hp} {a0 a1 a2 a3 : Int} {s : ByteArray} {K : J2} (st : St h) (h1 : F64 a1) (h3 : F64 a3) (hfd : ∀ i, ∀ f ∈ (ob h.objs i).field, f = -1 ∨ 0 ≤ f) (hK : K [I (storeM h.objs h.buffer a1 a2 a3).2.2.code, I (storeM h.objs h.buffer a1 a2 a3).2.2.val] [tR tO (storeM h.objs h.buffer a1 a2 a3).1, tR tW h.weaks, tI (storeM h.objs h.buffer a1 a2 a3).2.1, tS h.sites, tI (storeM h.objs h.buffer a1 a2 a3).2.2.freed]) : cl2 ⟨Try.prog, w0⟩ 138 spec_l8Store.sg [I a0, I a1, I a2, I a3, .string s] (trees h) K := by
  refine spec_l8Store.cl2 ?_
  unfold spec_l8Store.txt
  obtain ⟨os, ws, buf, ss⟩ := h
  have hol : os.length = 8 := st.ol
  have hof : ∀ o ∈ os, OF o := st.of
  simp only at hK hfd
  simp only [trees]
  unfold storeM at hK
  have gn : ∀ {K : J2}, K [] [tR tO (gainM os a3), tR tW ws, tI buf, tS ss] → cl2 ⟨Try.prog, w0⟩ 192 spec_Gain.sg [I a3] [tR tO os, tR tW ws, tI buf, tS ss] K := fun hk => spec_Gain_c st h3 hk
  have ls : ∀ {os' : List HObj} {x : Int} {K : J2}, os'.length = os.length → (∀ o ∈ os', OF o) → F64 x → K [] [tR tO (loseM os' buf [x]).1, tR tW ws, tI (loseM os' buf [x]).2.1, tS ss, tI (loseM os' buf [x]).2.2] → cl2 ⟨Try.prog, w0⟩ 193 spec_Lose.sg [] [tR tO os', tR tW ws, tI buf, tS ss, tI [x]] K := fun hl ho hx hk => spec_Lose_c (St.set st hl ho) (by simp) (by simpa using hx) hk
  refine spec_SlotOf_c h1 (by omega) ?_
  by_cases hs : slotOf os a1 < 0
  · rw [if_pos (.inl hs)] at hK
    repeat' (first | exact hK | refine gE_x ?_ | refine gE_su ?_ | refine gP_syf (by first | with_reducible assumption | omega) ?_ | refine gP_yf (by first | with_reducible assumption | omega) ?_ | refine pk_y (by first | with_reducible assumption | omega) rfl ?_ | refine cndP_T ?_ | refine prP_lss ?_)
  have hkb := slotOf_bd (l := os) (id := a1) (by omega)
  by_cases hc : a3 ≠ -1 ∧ slotOf os a3 < 0
  · obtain ⟨hc1, hc2⟩ := hc
    rw [if_pos (.inr ⟨hc1, hc2⟩)] at hK
    repeat' (first | refine spec_SlotOf_c h3 (by omega) ?_ | exact hK | refine gE_x ?_ | refine gE_sb ?_ | refine gP_snf (by first | with_reducible assumption | omega) ?_ | refine gP_yt (by first | with_reducible assumption | omega) ?_ | refine gP_nf (by first | with_reducible assumption | omega) ?_ | refine pk_y (by first | with_reducible assumption | omega) rfl ?_ | refine pk_n (by first | with_reducible assumption | omega) rfl ?_ | refine cndP_yes (by first | with_reducible assumption | omega) ?_ | refine prP_lss ?_ | refine prP_ned ?_)
  rw [if_neg (by omega)] at hK
  by_cases hb2 : ¬ (0 ≤ a2 ∧ a2 ≤ 2)
  · rw [if_pos hb2] at hK
    repeat' (first | refine spec_SlotOf_c h3 (by omega) ?_ | refine spec_l1In_d ?_ | exact hK | refine gE_x ?_ | refine gE_sb ?_ | refine gP_snf (by first | with_reducible assumption | omega) ?_ | refine gP_yt (by first | with_reducible assumption | omega) ?_ | refine gP_nt (by first | with_reducible assumption | omega) ?_ | refine gP_nf (by first | with_reducible assumption | omega) ?_ | refine pk_y (by first | with_reducible assumption | omega) rfl ?_ | refine pk_n (by first | with_reducible assumption | omega) rfl ?_ | refine cndP_F ?_ | refine cndP_yes (by first | with_reducible assumption | omega) ?_ | refine cndP_no (by first | with_reducible assumption | omega) ?_ | refine prP_lss ?_ | refine prP_ned ?_ | refine prP_notd ?_ | refine gP_dt (fun _ => ?_) (fun _ => ?_))
  rw [if_neg hb2] at hK
  obtain ⟨k, hkk⟩ : ∃ k, (slotOf os a1).toNat = k := ⟨_, rfl⟩
  have hkI : slotOf os a1 = (k : Int) := by omega
  rw [hkk] at hK hkb
  obtain ⟨j, rfl⟩ : ∃ j : Nat, a2 = j := ⟨a2.toNat, by omega⟩
  rw [Int.toNat_natCast] at hK
  have hkl : k < os.length := by omega
  have ho := hof _ (ob_mem (l := os) (i := k) (by omega))
  obtain ⟨_, _, _, _, _, gf, _⟩ := gainM_ob (os := os) (id := a3) (i := k)
  have gl := gainM_len os a3
  have gof := gainM_of (id := a3) hof
  have jl : j < (ob os k).field.length := by rw [ho.len]; omega
  have hold := hfd k _ (gI_mem jl)
  rw [hkI]
  repeat' (first | refine spec_SlotOf_c h3 (by omega) ?_ | refine spec_l1In_d ?_ | refine gE_x ?_ | refine gE_sb ?_ | refine gP_sFf ?_ | refine gP_FF ?_ | refine gP_yt (by first | with_reducible assumption | omega) ?_ | refine gP_nt (by first | with_reducible assumption | omega) ?_ | refine pk_y (by first | with_reducible assumption | omega) rfl ?_ | refine pk_n (by first | with_reducible assumption | omega) rfl ?_ | refine cndP_F ?_ | refine cndP_no (by first | with_reducible assumption | omega) ?_ | refine prP_lss ?_ | refine prP_ned ?_ | refine prP_notd ?_ | refine ixW_iv (by omega) ?_ | refine ldl_ob (by omega) ?_ | refine gP_dt (fun _ => ?_) (fun _ => ?_) | simp only [cnt_tO, cnt_tW, cnt_tP, cnt_tA, cnt_tN, cnt_tI, cnt_tS, cnt1_1, cnt1_0, cnt2_1, cnt3_1, cnt5_1, cnt6_1, cnt8_1, nx_0, nx_1, nx_2, nx_3, nx_4, nx_5, nx_6, nxc_0, nxc_1, nxc_2, nxc_3, nxc_4, nxc_5])
  all_goals
    refine ixW_iv (by rw [sub_ob (by omega), cnt_tI]; exact jl) (ldf_ob (by omega) jl (joinP_k ?_))
    simp only [cnt_tO, cnt_tW, cnt_tP, cnt_tA, cnt_tN, cnt_tI, cnt_tS, cnt1_1, cnt1_0, cnt2_1, cnt3_1, cnt5_1, cnt6_1, cnt8_1, nx_0, nx_1, nx_2, nx_3, nx_4, nx_5, nx_6, nxc_0, nxc_1, nxc_2, nxc_3, nxc_4, nxc_5]
    refine prP_geq (cndP_d (fun hge => gn ?_) fun hlt => ?_)
    · simp only [cnt_tO, cnt_tW, cnt_tP, cnt_tA, cnt_tN, cnt_tI, cnt_tS, cnt1_1, cnt1_0, cnt2_1, cnt3_1, cnt5_1, cnt6_1, cnt8_1, nx_0, nx_1, nx_2, nx_3, nx_4, nx_5, nx_6, nxc_0, nxc_1, nxc_2, nxc_3, nxc_4, nxc_5]
      refine ixW_iv (by omega) (ldl_tR (f := tO) (i := k) (by omega) (by decide) rfl ?_)
      refine ixW_iv (by rw [sub_ob (by omega), cnt_tI, gf]; exact jl) (stF (by omega) (by rw [gf]; exact jl) ?_)
      rw [gf]
      refine prP_lss (cndP_d (fun he => ?_) fun he => ?_)
      · rw [if_pos (by omega)] at hK; exact hK
      · rw [if_neg (by omega)] at hK
        exact ls (by simpa using gl) (of_set gof (OF.put (gof _ (ob_mem (by omega))) (by rw [List.length_set]; exact ho.len) fun x hx => (List.mem_or_eq_of_mem_set hx).elim (ho.fld x) fun he => he ▸ h3)) (ho.fld _ (gI_mem jl)) hK
    · have e0 : gainM os a3 = os := by unfold gainM; rw [if_pos]; rw [slotOf_no (by omega)]; decide
      rw [e0] at hK
      refine ixW_iv (by omega) (ldl_tR (f := tO) (i := k) (by omega) (by decide) rfl ?_)
      refine ixW_iv (by rw [sub_ob (by omega), cnt_tI]; exact jl) (stF (by omega) jl ?_)
      refine prP_lss (cndP_d (fun he => ?_) fun he => ?_)
      · rw [if_pos (by omega)] at hK; exact hK
      · rw [if_neg (by omega)] at hK
        exact ls (by simp) (of_set hof (OF.put ho (by rw [List.length_set]; exact ho.len) fun x hx => (List.mem_or_eq_of_mem_set hx).elim (ho.fld x) fun he => he ▸ h3)) (ho.fld _ (gI_mem jl)) hK
/-! ### Weak handles -/
def weakM (os : List HObj) (ws : List Wk) (id : Int) : List Wk × An :=
  if slotOf os id < 0 then (ws, ⟨1, 0, []⟩) else if freeWk ws < 0 then (ws, ⟨3, 0, []⟩) else (ws.set (freeWk ws).toNat ⟨true, id⟩, ⟨0, freeWk ws, []⟩)
def handleM (os : List HObj) (ws : List Wk) (kind k : Int) : List Wk × An :=
  if ¬ (0 ≤ k ∧ k ≤ (ws.length : Int) - 1) then (ws, ⟨2, 0, []⟩) else
  if (wk ws k.toNat).used = false then (ws, ⟨2, 0, []⟩) else
  if kind = 9 then (ws.set k.toNat ⟨false, 0⟩, ⟨0, 0, []⟩) else
  if slotOf os (wk ws k.toNat).target < 0 then (ws, ⟨0, -1, []⟩) else (ws, ⟨0, (wk ws k.toNat).target, []⟩)
theorem freeWk_bd {ws : List Wk} (h : ¬ freeWk ws < 0) : (freeWk ws).toNat < ws.length ∧ freeWk ws = ((freeWk ws).toNat : Int) ∧ (wk ws (freeWk ws).toNat).used = false := by
  rcases firstI_cases ws.length (fun i => !(wk ws i).used) with ⟨h1, _⟩ | ⟨i, h1, h2, h3, _⟩
  · unfold freeWk at h; omega
  · have e : freeWk ws = i := h2
    have e2 : (freeWk ws).toNat = i := by omega
    rw [e2]; exact ⟨h1, e, by simpa using h3⟩
theorem impl_weak_c {os : List HObj} {ws : List Wk} {c d : List T} {id : Int} {K : J2} (hol : os.length = 8) (hwl : ws.length = 8) (hid : F64 id) (h : K [I (weakM os ws id).2.code, I (weakM os ws id).2.val] [tI (weakM os ws id).2.freed, tR tW (weakM os ws id).1]) : cl2 ⟨Try.prog, w0⟩ 186 impl_Heap_weak.sg [I id] [tR tO os, tR tW ws, c, d] K := by
  refine impl_Heap_weak.cl2 ?_
  unfold impl_Heap_weak.txt
  unfold weakM at h
  simp only [cnt_tO, cnt_tW, cnt_tP, cnt_tA, cnt_tN, cnt_tI, cnt_tS, cnt1_1, cnt1_0, cnt2_1, cnt3_1, cnt5_1, cnt6_1, cnt8_1, nx_0, nx_1, nx_2, nx_3, nx_4, nx_5, nx_6, nxc_0, nxc_1, nxc_2, nxc_3, nxc_4, nxc_5]
  refine impl_freeWeak_c hwl (impl_SlotOf_c hid (by omega) (prP_lss (cndP_d (fun hs => ?_) fun hs => ?_)))
  · rw [if_pos hs] at h; exact impl_refused_c h
  rw [if_neg hs] at h
  refine prP_lss (cndP_d (fun hf => ?_) fun hf => ?_)
  · rw [if_pos hf] at h; exact impl_refused_c h
  rw [if_neg hf] at h
  obtain ⟨f1, f2, f3⟩ := freeWk_bd hf
  simp only [cnt_tO, cnt_tW, cnt_tP, cnt_tA, cnt_tN, cnt_tI, cnt_tS, cnt1_1, cnt1_0, cnt2_1, cnt3_1, cnt5_1, cnt6_1, cnt8_1, nx_0, nx_1, nx_2, nx_3, nx_4, nx_5, nx_6, nxc_0, nxc_1, nxc_2, nxc_3, nxc_4, nxc_5]
  rw [f2] at h ⊢
  rw [Int.toNat_natCast] at h
  exact ixW_iv f1 (stg_tR (f := tW) f1 (y := ⟨true, id⟩) rfl h)
theorem impl_handle_c {os : List HObj} {ws : List Wk} {c d : List T} {kind k : Int} {K : J2} (hol : os.length = 8) (hwl : ws.length = 8) (hk : F64 k) (hwf : ∀ w ∈ ws, F64 w.target) (h : K [I (handleM os ws kind k).2.code, I (handleM os ws kind k).2.val] [tI (handleM os ws kind k).2.freed, tR tW (handleM os ws kind k).1]) : cl2 ⟨Try.prog, w0⟩ 187 impl_Heap_handle.sg [I kind, I k] [tR tO os, tR tW ws, c, d] K := by
  refine impl_Heap_handle.cl2 ?_
  unfold impl_Heap_handle.txt
  unfold handleM at h
  simp only [cnt_tO, cnt_tW, cnt_tP, cnt_tA, cnt_tN, cnt_tI, cnt_tS, cnt1_1, cnt1_0, cnt2_1, cnt3_1, cnt5_1, cnt6_1, cnt8_1, nx_0, nx_1, nx_2, nx_3, nx_4, nx_5, nx_6, nxc_0, nxc_1, nxc_2, nxc_3, nxc_4, nxc_5]
  refine prP_sub ⟨by omega, by omega⟩ (impl_in_d (prP_notd ?_))
  by_cases hb : ¬ (0 ≤ k ∧ k ≤ (ws.length : Int) - 1)
  · rw [if_pos hb] at h
    repeat' (first | exact impl_refused_c h | refine gE_x ?_ | refine gP_yf (by first | with_reducible assumption | omega) ?_ | refine pk_y (by first | with_reducible assumption | omega) rfl ?_ | refine cndP_T ?_)
  rw [if_neg hb] at h
  obtain ⟨j, rfl⟩ : ∃ j : Nat, k = j := ⟨k.toNat, by omega⟩
  rw [Int.toNat_natCast] at h
  have jl : j < ws.length := by omega
  have hw := hwf _ (List.getElem_mem jl)
  rw [wk_eq jl] at hw
  cases hu : (wk ws j).used with
  | false =>
    rw [if_pos hu] at h
    repeat' (first | refine ldc_wk0 (v := .bool false) jl (by simp [tW, hu]) ?_ | exact impl_refused_c h | refine gE_x ?_ | refine gP_nf (by first | with_reducible assumption | omega) ?_ | refine pk_n (by first | with_reducible assumption | omega) rfl ?_ | refine cndP_T ?_ | refine ixW_iv (by omega) ?_ | refine prP_not ?_)
  | true =>
    rw [if_neg (by rw [hu]; decide)] at h
    repeat' (first | refine ldc_wk0 (v := .bool true) jl (by simp [tW, hu]) ?_ | refine impl_SlotOf_c hw (by omega) ?_ | refine gE_x ?_ | refine gP_nf (by first | with_reducible assumption | omega) ?_ | refine pk_n (by first | with_reducible assumption | omega) rfl ?_ | refine cndP_F ?_ | refine prP_lss ?_ | refine prP_eqd ?_ | refine ixW_iv (by omega) ?_ | refine ldc_wk (by omega) (by decide) rfl ?_ | refine cndP_d (fun _ => ?_) (fun _ => ?_) | refine prP_not ?_)
    · rename_i hh
      rw [if_pos hh] at h
      exact stg_tR (f := tW) jl (y := ⟨false, 0⟩) rfl h
    · rename_i hh hs
      rw [if_neg hh, if_pos hs] at h
      exact h
    · rename_i hh hs
      rw [if_neg hh, if_neg hs] at h
      exact h
theorem spec_l8Weak_c {os : List HObj} {ws : List Wk} {cc d : List T} {kind k b c : Int} {s : ByteArray} {K : J2} (hol : os.length = 8) (hwl : ws.length = 8) (hk : F64 k) (hwf : ∀ w ∈ ws, F64 w.target) (h7 : kind = 7 → K [I (weakM os ws k).2.code, I (weakM os ws k).2.val] [tR tW (weakM os ws k).1, tI (weakM os ws k).2.freed]) (h : kind ≠ 7 → K [I (handleM os ws kind k).2.code, I (handleM os ws kind k).2.val] [tR tW (handleM os ws kind k).1, tI (handleM os ws kind k).2.freed]) : cl2 ⟨Try.prog, w0⟩ 139 spec_l8Weak.sg [I kind, I k, I b, I c, .string s] [tR tO os, tR tW ws, cc, d] K := by
  refine spec_l8Weak.cl2 ?_
  unfold spec_l8Weak.txt
  simp only [cnt_tO, cnt_tW, cnt_tP, cnt_tA, cnt_tN, cnt_tI, cnt_tS, cnt1_1, cnt1_0, cnt2_1, cnt3_1, cnt5_1, cnt6_1, cnt8_1, nx_0, nx_1, nx_2, nx_3, nx_4, nx_5, nx_6, nxc_0, nxc_1, nxc_2, nxc_3, nxc_4, nxc_5]
  refine prP_eqd (cndP_d (fun he => ?_) fun he => ?_)
  · replace h := h7 he
    clear h7
    unfold weakM at h
    refine spec_SlotOf_c hk (by omega) (prP_lss (cndP_d (fun hs => ?_) fun hs => ?_))
    · rw [if_pos hs] at h; exact h
    rw [if_neg hs] at h
    refine loopP_from (fun i => [iv i, I kind, I k, I b, I c, .string s, I 0, I 0]) (fun _ => [tR tW ws]) ws.length (fun i => ∀ j, j < i → (!(wk ws j).used) = false) rfl rfl (fun k hk => by omega) (fun R i hi hP hR => ?_)
    simp only [cnt_tO, cnt_tW, cnt_tP, cnt_tA, cnt_tN, cnt_tI, cnt_tS, cnt1_1, cnt1_0, cnt2_1, cnt3_1, cnt5_1, cnt6_1, cnt8_1, nx_0, nx_1, nx_2, nx_3, nx_4, nx_5, nx_6, nxc_0, nxc_1, nxc_2, nxc_3, nxc_4, nxc_5]
    refine prP_lss (cndP_d (fun hlt => ?_) fun hge => ?_)
    · have hlt : i < ws.length := by omega
      cases hv : (wk ws i).used with
      | false =>
        refine ixW_iv hlt (ldc_wk0 (v := .bool false) hlt (by simp [tW, hv]) (prP_not (cndP_T (ixW_iv hlt ?_))))
        unfold freeWk at h
        rw [firstI_here hlt (by rw [hv]; rfl) hP, if_neg (by omega), Int.toNat_natCast] at h
        exact stg_tR (f := tW) hlt (y := ⟨true, k⟩) rfl h
      | true =>
        refine ixW_iv hlt (ldc_wk0 (v := .bool true) hlt (by simp [tW, hv]) (prP_not (cndP_F (prP_inc (by omega) (hR hlt fun k hk => ?_)))))
        rcases Nat.lt_succ_iff_lt_or_eq.1 hk with h3 | rfl
        · exact hP k h3
        · rw [hv]; rfl
    · have : i = ws.length := by omega
      subst this
      unfold freeWk at h
      rw [firstI_no hP, if_pos (by decide)] at h; exact h
  · replace h := h he
    clear h7
    unfold handleM at h
    refine prP_sub ⟨by omega, by omega⟩ (spec_l1In_d (prP_notd ?_))
    by_cases hb : ¬ (0 ≤ k ∧ k ≤ (ws.length : Int) - 1)
    · rw [if_pos hb] at h
      repeat' (first | exact h | refine gE_x ?_ | refine gP_yf (by first | with_reducible assumption | omega) ?_ | refine pk_y (by first | with_reducible assumption | omega) rfl ?_ | refine cndP_T ?_)
    rw [if_neg hb] at h
    obtain ⟨j, rfl⟩ : ∃ j : Nat, k = j := ⟨k.toNat, by omega⟩
    rw [Int.toNat_natCast] at h
    have jl : j < ws.length := by omega
    have hw := hwf _ (List.getElem_mem jl)
    rw [wk_eq jl] at hw
    cases hu : (wk ws j).used with
    | false =>
      rw [if_pos hu] at h
      repeat' (first | refine ldc_wk0 (v := .bool false) jl (by simp [tW, hu]) ?_ | exact h | refine gE_x ?_ | refine gP_nf (by first | with_reducible assumption | omega) ?_ | refine pk_n (by first | with_reducible assumption | omega) rfl ?_ | refine cndP_T ?_ | refine ixW_iv (by omega) ?_ | refine prP_not ?_)
    | true =>
      rw [if_neg (by rw [hu]; decide)] at h
      repeat' (first | refine ldc_wk0 (v := .bool true) jl (by simp [tW, hu]) ?_ | refine spec_SlotOf_c hw (by omega) ?_ | refine gE_x ?_ | refine gP_nf (by first | with_reducible assumption | omega) ?_ | refine pk_n (by first | with_reducible assumption | omega) rfl ?_ | refine cndP_F ?_ | refine prP_lss ?_ | refine prP_eqd ?_ | refine ixW_iv (by omega) ?_ | refine ldc_wk (by omega) (by decide) rfl ?_ | refine cndP_d (fun _ => ?_) (fun _ => ?_) | refine prP_not ?_)
      · rename_i hh
        rw [if_pos hh] at h
        exact stg_tR (f := tW) jl (y := ⟨false, 0⟩) rfl h
      · rename_i hh hs
        rw [if_neg hh, if_pos hs] at h
        exact h
      · rename_i hh hs
        rw [if_neg hh, if_neg hs] at h
        exact h
end Go.Proofs.Ytnhicpkhkaihoaa.P
