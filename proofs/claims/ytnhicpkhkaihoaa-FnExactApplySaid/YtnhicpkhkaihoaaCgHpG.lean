/- A part of the proof. -/
import Derived.Test.YtnhicpkhkaihoaaCgTxtE
/- ShowEvent's pens and sites. -/
namespace Go.Proofs.Ytnhicpkhkaihoaa.P
open Go Go.Proofs.Ytnhicpkhkaihoaa Go.Proofs.Ytnhicpkhkaihoaa.Eng
set_option linter.unusedVariables false
def szB (s : ByteArray) : Bool := decide ((s.size : Int) ≤ 8)
def goodT (l : List ByteArray) : Bool := l.all szB && decide l.Nodup
def penB (n : Int) (l : List ByteArray) : Bool := (argB n && decide (l.length ≤ 400)) && goodT l
theorem scW_to {n i : Nat} (hi : i ≤ n) {K : Value → Value → Prop} (h : K (iv 0) (iv i)) : scW n none (some (iv i)) K :=
  ⟨0, i, rfl, by simp [bnd, iv], Nat.zero_le _, hi, h⟩
def siteB (l : List ByteArray) (s : ByteArray) : ByteArray := if s ∈ l then V (at_ l s + 1) else V 0 ++ ST s
def penT (l : List ByteArray) (s : ByteArray) : List ByteArray := if s ∈ l then l else l ++ [s]
end Go.Proofs.Ytnhicpkhkaihoaa.P
/- Right heaps. -/
namespace Go.Proofs.Ytnhicpkhkaihoaa.P
open Go Go.Proofs.Ytnhicpkhkaihoaa Go.Proofs.Ytnhicpkhkaihoaa.Eng
set_option maxHeartbeats 4000000
set_option linter.unusedVariables false
set_option linter.unusedSimpArgs false
attribute [local irreducible] prP gP gE gF cndP ixW ldc ldg ldl stc stg scW mkW apW loopP cl2 joinP pre2 selW
variable {w0 : World}
theorem ob_step {a : List HObj} {i : Nat} (hi : i < a.length) : tR tO (a.take i) ++ [T.c (.bool (ob a i).live), .c (I (ob a i).gen), .c (I (ob a i).site), .c (I (ob a i).holds), .c (I (ob a i).roots), .c (I (ob a i).count), .l 1 (tI (ob a i).field), .c (.bool (ob a i).purple)] = tR tO (a.take (i + 1)) := by
  rw [List.take_succ_eq_append_getElem hi, ob_eq hi]
  exact tO_snoc _ (ob a i)
theorem impl_copyHeap_c {h : Hp} {K : J2} (hf : Fits h) (hk : K [] (trees h)) : cl2 ⟨Try.prog, w0⟩ 141 impl_copyHeap.sg [] (trees h) K := by
  obtain ⟨a, b, c, d⟩ := h
  have g1 := hf.ol; have g2 := hf.wl; have g3 := hf.sl; have g4 := hf.bl
  simp only at g1 g2 g3 g4
  refine impl_copyHeap.cl2 ?_
  unfold impl_copyHeap.txt
  simp only [cnt_tO, cnt_tW, cnt_tP, cnt_tA, cnt_tN, cnt_tI, cnt_tS, cnt1_1, cnt1_0, cnt2_1, cnt3_1, cnt5_1, cnt6_1, cnt8_1, nx_0, nx_1, nx_2, nx_3, nx_4, nx_5, nx_6, nxc_0, nxc_1, nxc_2, nxc_3, nxc_4, nxc_5]
  refine apW_p (flat_tW _) (by omega) (impl_copyInts_c (by omega) (impl_copyTexts_c (by omega) ?_))
  refine loopP_from (fun i => [iv a.length, iv i]) (fun i => [tR tO (a.take i), tR tW b, tI c, tS d]) a.length (fun _ => True) rfl rfl trivial (fun R i hi hP hR => ?_)
  simp only [cnt_tO, cnt_tW, cnt_tP, cnt_tA, cnt_tN, cnt_tI, cnt_tS, cnt1_1, cnt1_0, cnt2_1, cnt3_1, cnt5_1, cnt6_1, cnt8_1, nx_0, nx_1, nx_2, nx_3, nx_4, nx_5, nx_6, nxc_0, nxc_1, nxc_2, nxc_3, nxc_4, nxc_5]
  refine prP_lss (cndP_d (fun hlt => ?_) fun hge => ?_)
  · have hlt : i < a.length := by omega
    have hfo : ((ob a i).field.length : Int) ≤ 1048576 := ob_of (l := a) hf.of hlt
    have hln : (a.take i).length = i := by simp; omega
    replace hR := hR hlt trivial
    refine ixW_iv hlt (ldg_ob hlt ?_)
    rw [sub_ob hlt]
    refine impl_copyInts_c (by omega) (apW_n (by rw [hln]; omega) (prP_inc (by omega) ?_))
    rw [← ob_step hlt] at hR
    exact hR
  · have : i = a.length := by omega
    subst this
    rw [List.take_length]; exact hk
theorem spec_l5Copy_c {h : Hp} {K : J2} (hf : Fits h) (hk : K [] (trees h)) : cl2 ⟨Try.prog, w0⟩ 134 spec_l5Copy.sg [] (trees h) K := by
  obtain ⟨a, b, c, d⟩ := h
  have g1 := hf.ol; have g2 := hf.wl; have g3 := hf.sl; have g4 := hf.bl
  simp only at g1 g2 g3 g4
  refine spec_l5Copy.cl2 ?_
  unfold spec_l5Copy.txt
  simp only [cnt_tO, cnt_tW, cnt_tP, cnt_tA, cnt_tN, cnt_tI, cnt_tS, cnt1_1, cnt1_0, cnt2_1, cnt3_1, cnt5_1, cnt6_1, cnt8_1, nx_0, nx_1, nx_2, nx_3, nx_4, nx_5, nx_6, nxc_0, nxc_1, nxc_2, nxc_3, nxc_4, nxc_5]
  refine apW_p (flat_tW _) (by simp only [cnt, List.length_nil]; omega) (apW_p (flat_tI _) (by omega) (apW_p (flat_tS _) (by omega) ?_))
  refine loopP_from (fun i => [iv i]) (fun i => [tR tO (a.take i), tR tW b, tI c, tS d]) a.length (fun _ => True) rfl rfl trivial (fun R i hi hP hR => ?_)
  simp only [cnt_tO, cnt_tW, cnt_tP, cnt_tA, cnt_tN, cnt_tI, cnt_tS, cnt1_1, cnt1_0, cnt2_1, cnt3_1, cnt5_1, cnt6_1, cnt8_1, nx_0, nx_1, nx_2, nx_3, nx_4, nx_5, nx_6, nxc_0, nxc_1, nxc_2, nxc_3, nxc_4, nxc_5]
  refine prP_lss (cndP_d (fun hlt => ?_) fun hge => ?_)
  · have hlt : i < a.length := by omega
    have hfo : ((ob a i).field.length : Int) ≤ 1048576 := ob_of (l := a) hf.of hlt
    have hln : (a.take i).length = i := by simp; omega
    replace hR := hR hlt trivial
    refine ixW_iv hlt (ldg_ob hlt ?_)
    rw [sub_ob hlt]
    refine apW_p (flat_tI _) (by first | omega | (simp only [cnt_tO, cnt_tW, cnt_tP, cnt_tA, cnt_tN, cnt_tI, cnt_tS, cnt1_1, cnt1_0, cnt2_1, cnt3_1, cnt5_1, cnt6_1, cnt8_1, nx_0, nx_1, nx_2, nx_3, nx_4, nx_5, nx_6, nxc_0, nxc_1, nxc_2, nxc_3, nxc_4, nxc_5]; omega)) (apW_n (by rw [hln]; omega) (prP_inc (by omega) ?_))
    rw [← ob_step hlt] at hR
    exact hR
  · have : i = a.length := by omega
    subst this
    rw [List.take_length]; exact hk
/-! ### Names -/
structure SitesOk (l : List ByteArray) : Prop where
  len : l.length ≤ 6
  sz : ∀ i, i < l.length → 1 ≤ ((gS l i).size : Int) ∧ ((gS l i).size : Int) ≤ 8
  one : ∀ i, i < l.length → gS l i ∉ l.take i
theorem nmemS_succ {l : List ByteArray} {i : Nat} {x : ByteArray} (hi : i < l.length) (h : x ∉ l.take i) (hn : gS l i ≠ x) : x ∉ l.take (i + 1) := by
  rw [List.take_succ_eq_append_getElem hi, gS_eq hi]
  simp only [List.mem_append, List.mem_singleton, not_or]
  exact ⟨h, fun he => hn he.symm⟩
theorem impl_sitesOk_c {l : List ByteArray} {K : J2} (hl : (l.length : Int) < 2 ^ 62) (h1 : SitesOk l → K [.bool true] []) (h2 : ¬ SitesOk l → K [.bool false] []) : cl2 ⟨Try.prog, w0⟩ 198 impl_sitesOk.sg [] [tS l] K := by
  refine impl_sitesOk.cl2 ?_
  unfold impl_sitesOk.txt
  simp only [cnt_tO, cnt_tW, cnt_tP, cnt_tA, cnt_tN, cnt_tI, cnt_tS, cnt1_1, cnt1_0, cnt2_1, cnt3_1, cnt5_1, cnt6_1, cnt8_1, nx_0, nx_1, nx_2, nx_3, nx_4, nx_5, nx_6, nxc_0, nxc_1, nxc_2, nxc_3, nxc_4, nxc_5]
  refine loopP_from (fun i => [iv l.length, iv i]) (fun _ => []) l.length (fun i => ∀ k, k < i → (1 ≤ ((gS l k).size : Int) ∧ ((gS l k).size : Int) ≤ 8) ∧ gS l k ∉ l.take k) rfl rfl (fun k hk => by omega) (fun R i hi hP hR => ?_)
  simp only [cnt_tO, cnt_tW, cnt_tP, cnt_tA, cnt_tN, cnt_tI, cnt_tS, cnt1_1, cnt1_0, cnt2_1, cnt3_1, cnt5_1, cnt6_1, cnt8_1, nx_0, nx_1, nx_2, nx_3, nx_4, nx_5, nx_6, nxc_0, nxc_1, nxc_2, nxc_3, nxc_4, nxc_5]
  refine prP_lss (cndP_d (fun hlt => ?_) fun hge => ?_)
  · have hlt : i < l.length := by omega
    refine ixW_iv hlt (ldS hlt (prP_lnS (impl_in_d (prP_notd (gE_x (gE_x (gP_df (fun hb => ?_) fun hb => ?_)))))))
    · refine scW_to (by omega) (gE_x (gP_nf hb ?_))
      have e : sub2 (tS l) [] (natOf (fst2 (two (iv 0) (iv i))) * 1) (natOf (snd2 (two (iv 0) (iv i))) * 1) = tS (l.take i) := by
        have h1 : natOf (fst2 (two (iv 0) (iv i))) = 0 := rfl
        have h2 : natOf (snd2 (two (iv 0) (iv i))) = i := natOf_iv i
        rw [h1, h2]; simp [sub2, node, tS, List.map_take]
      rw [e]
      refine impl_hasText_c (by simp; omega) (pk_n hb rfl (cndP_d (fun hm => h2 fun hk => hk.one i hlt hm) fun hm => ?_))
      refine prP_inc (by omega) (hR hlt fun k hk => ?_)
      rcases Nat.lt_succ_iff_lt_or_eq.1 hk with h3 | rfl
      · exact hP k h3
      · exact ⟨Decidable.not_not.1 hb, hm⟩
    · exact gE_x (gP_yf hb (pk_y hb rfl (cndP_T (h2 fun hk => hb (hk.sz i hlt)))))
  · have : i = l.length := by omega
    subst this
    refine prP_leq ?_
    by_cases h6 : (l.length : Int) ≤ 6
    · rw [decide_eq_true h6]
      exact h1 ⟨by omega, fun i hi => (hP i hi).1, fun i hi => (hP i hi).2⟩
    · rw [decide_eq_false h6]
      exact h2 fun hk => by have := hk.len; omega
/-! ### Objects -/
structure ObjOk (h : Hp) (i : Nat) : Prop where
  gen : 0 ≤ (ob h.objs i).gen ∧ (ob h.objs i).gen ≤ 999
  len : (ob h.objs i).field.length = 3
  lead : ∀ j, j < 3 → gI (ob h.objs i).field j ≠ -1 → (ob h.objs i).live = true ∧ 0 ≤ slotOf h.objs (gI (ob h.objs i).field j)
  dead : (ob h.objs i).live = false → (ob h.objs i).site = 0 ∧ (ob h.objs i).holds = 0 ∧ (ob h.objs i).roots = 0 ∧ (ob h.objs i).count = 0 ∧ (ob h.objs i).purple = false
  lv : (ob h.objs i).live = true → 1 ≤ (ob h.objs i).gen ∧ (0 ≤ (ob h.objs i).site ∧ (ob h.objs i).site ≤ (h.sites.length : Int) - 1) ∧ (0 ≤ (ob h.objs i).holds ∧ (ob h.objs i).holds ≤ 20) ∧ (0 ≤ (ob h.objs i).roots ∧ (ob h.objs i).roots ≤ 20) ∧
    (ob h.objs i).count = (ob h.objs i).holds + (ob h.objs i).roots + inE h.objs i ∧ 1 ≤ (ob h.objs i).count ∧ (ob h.objs i).purple = decide (idOf i (ob h.objs i).gen ∈ h.buffer)
structure HeapOk (h : Hp) : Prop where
  ol : h.objs.length = 8
  wl : h.weaks.length = 8
  sites : SitesOk h.sites
  obj : ∀ i, i < 8 → ObjOk h i
  weak : ∀ i, i < 8 → ((wk h.weaks i).used = false → (wk h.weaks i).target = 0) ∧ ((wk h.weaks i).used = true → 8 ≤ (wk h.weaks i).target ∧ (wk h.weaks i).target ≤ 7999)
  buf : ∀ i, i < h.buffer.length → 0 ≤ slotOf h.objs (gI h.buffer i) ∧ gI h.buffer i ∉ h.buffer.take i
theorem gI_of {l : List Int} {P : Int → Prop} (h0 : P 0) (h : ∀ x ∈ l, P x) (i : Nat) : P (gI l i) := by
  by_cases hi : i < l.length
  · rw [← gI_eq hi]; exact h _ (List.getElem_mem hi)
  · unfold gI; rw [List.getD_eq_getElem?_getD, List.getElem?_eq_none (by omega)]; exact h0
theorem F64_0 : F64 0 := ⟨by omega, by omega⟩
theorem Nums.ob {h : Hp} (hn : Nums h) (i : Nat) : F64 (ob h.objs i).gen ∧ F64 (ob h.objs i).site ∧ F64 (ob h.objs i).holds ∧ F64 (ob h.objs i).roots ∧ F64 (ob h.objs i).count ∧ ∀ f ∈ (ob h.objs i).field, F64 f := by
  by_cases hi : i < h.objs.length
  · rw [← ob_eq hi]; exact hn.obj _ (List.getElem_mem hi)
  · unfold Eng.ob; rw [List.getD_eq_getElem?_getD, List.getElem?_eq_none (by omega)]
    exact ⟨F64_0, F64_0, F64_0, F64_0, F64_0, fun f hf => by simp at hf⟩
theorem Nums.fld {h : Hp} (hn : Nums h) (i j : Nat) : F64 (gI (Eng.ob h.objs i).field j) := gI_of F64_0 (hn.ob i).2.2.2.2.2 j
theorem Nums.bf {h : Hp} (hn : Nums h) (i : Nat) : F64 (gI h.buffer i) := gI_of F64_0 hn.buf i
theorem inE_bd {l : List HObj} (hl : (l.length : Int) ≤ 1048576) (hf : ∀ o ∈ l, (o.field.length : Int) ≤ 1048576) (s : Int) : 0 ≤ inE l s ∧ inE l s ≤ 2 ^ 40 := by
  rw [inE]; split
  · have he := edges_le (l := l) (id := idOf s (ob l s.toNat).gen) (b := 1048576) fun o ho => by have := hf o ho; omega
    have hmul : l.length * 1048576 ≤ 1048576 * 1048576 := Nat.mul_le_mul_right _ (by omega)
    omega
  · omega
theorem impl_objOk_c {h : Hp} {i : Nat} {K : J2} (hf : Fits h) (hn : Nums h) (hi : i < h.objs.length) (h1 : ObjOk h i → K [.bool true] []) (h2 : ¬ ObjOk h i → K [.bool false] []) : cl2 ⟨Try.prog, w0⟩ 199 impl_objOk.sg [I i] (trees h) K := by
  have g1 := hf.ol; have g3 := hf.sl; have g4 := hf.bl
  refine impl_objOk.cl2 ?_
  unfold impl_objOk.txt
  simp only [cnt_tO, cnt_tW, cnt_tP, cnt_tA, cnt_tN, cnt_tI, cnt_tS, cnt1_1, cnt1_0, cnt2_1, cnt3_1, cnt5_1, cnt6_1, cnt8_1, nx_0, nx_1, nx_2, nx_3, nx_4, nx_5, nx_6, nxc_0, nxc_1, nxc_2, nxc_3, nxc_4, nxc_5]
  refine ixW_iv hi (ldg_ob hi ?_)
  rw [sub_ob hi, cnt_tI]
  have hfo := ob_len hf.of i
  have hnum := hn.ob i
  obtain ⟨⟨n1, n2⟩, ⟨n3, n4⟩, _, _, ⟨n5, n6⟩, _⟩ := hnum
  have hib := inE_bd hf.ol hf.of i
  refine impl_in_d (prP_notd (gE_x (gE_x (gE_x (gP_df (fun hg => ?_) fun hg => ?_)))))
  rotate_left
  · exact pk_y hg rfl (cndP_T (h2 fun hk => hg hk.gen))
  refine prP_ned (pk_n hg rfl (cndP_d (fun h3 => h2 fun hk => by have := hk.len; omega) fun h3 => ?_))
  have hl3 : (ob h.objs i).field.length = 3 := by omega
  have hg : 0 ≤ (ob h.objs i).gen ∧ (ob h.objs i).gen ≤ 999 := Decidable.not_not.1 hg
  rw [hl3]
  refine loopP_from (fun j => [iv i, iv (natOf (iv i) * 8 + 6), iv 3, iv j, .bool (ob h.objs i).live, I (ob h.objs i).gen, I (ob h.objs i).site, I (ob h.objs i).holds, I (ob h.objs i).roots, I (ob h.objs i).count, iv (natOf (iv i) * 8 + 6), .bool (ob h.objs i).purple]) (fun _ => []) 3 (fun j => ∀ k, k < j → gI (ob h.objs i).field k ≠ -1 → (ob h.objs i).live = true ∧ 0 ≤ slotOf h.objs (gI (ob h.objs i).field k)) rfl rfl (fun k hk => by omega) (fun R j hj hP hR => ?_)
  simp only [cnt_tO, cnt_tW, cnt_tP, cnt_tA, cnt_tN, cnt_tI, cnt_tS, cnt1_1, cnt1_0, cnt2_1, cnt3_1, cnt5_1, cnt6_1, cnt8_1, nx_0, nx_1, nx_2, nx_3, nx_4, nx_5, nx_6, nxc_0, nxc_1, nxc_2, nxc_3, nxc_4, nxc_5]
  rw [natOf_iv (natOf (iv i) * 8 + 6), sub_ob hi, cnt_tI, hl3]
  refine prP_lss (cndP_d (fun hlt => ?_) fun hge => ?_)
  · have hlt : j < 3 := by omega
    refine ixW_iv hlt (ldf_ob hi (by omega) ?_)
    repeat' (first | refine impl_SlotOf_c (hn.fld i j) (by omega) ?_ | refine gE_x ?_ | refine gE_sb ?_ | refine gE_su ?_ | refine gP_sy (by first | with_reducible assumption | omega) ?_ | refine gP_sn (by first | with_reducible assumption | omega) ?_ | refine gP_yt (by first | with_reducible assumption | omega) ?_ | refine gP_nt (by first | with_reducible assumption | omega) ?_ | refine gP_on (by with_reducible assumption) ?_ | refine gP_offf (by with_reducible assumption) ?_ | refine pk_t (by with_reducible assumption) rfl ?_ | refine pk_f (by with_reducible assumption) rfl ?_ | refine pk_y (by first | with_reducible assumption | omega) rfl ?_ | refine pk_n (by first | with_reducible assumption | omega) rfl ?_ | refine cndP_T ?_ | refine cndP_F ?_ | refine prP_lss ?_ | refine prP_ned ?_ | refine prP_inc (by omega) ?_ | refine cndP_d (fun _ => ?_) (fun _ => ?_) | refine gP_dt (fun _ => ?_) (fun _ => ?_) | refine gP_cf (fun _ => ?_) (fun _ => ?_) | refine prP_not ?_)
    all_goals first
      | (refine hR hlt fun k hk hne => ?_
         rcases Nat.lt_succ_iff_lt_or_eq.1 hk with h4 | rfl
         · exact hP k h4 hne
         · first
           | exact absurd hne (by assumption)
           | exact ⟨by simp_all, by omega⟩)
      | (refine h2 fun hk => ?_
         have h4 := hk.lead j hlt (by assumption)
         first
           | omega
           | simp_all)
  · have hj3 : j = 3 := by omega
    subst hj3
    cases hv : (ob h.objs i).live with
    | false =>
      have mk : (ob h.objs i).site = 0 → (ob h.objs i).holds = 0 → (ob h.objs i).roots = 0 → (ob h.objs i).count = 0 → (ob h.objs i).purple = false → ObjOk h i := fun a b c d e => ⟨hg, hl3, hP, fun _ => ⟨a, b, c, d, e⟩, fun hh => by rw [hv] at hh; cases hh⟩
      refine prP_not (cndP_T ?_)
      cases hpu : (ob h.objs i).purple
      · repeat' (first | refine gE_x ?_ | refine gP_FT ?_ | refine pk_y (by first | with_reducible assumption | omega) rfl ?_ | refine pk_n (by first | with_reducible assumption | omega) rfl ?_ | refine pk_F rfl ?_ | refine prP_eqd ?_ | refine gP_dt (fun _ => ?_) (fun _ => ?_) | refine prP_not ?_)
        all_goals first
          | exact h1 (mk (by assumption) (by assumption) (by assumption) (by assumption) hpu)
          | (refine h2 fun hk => ?_
             have h4 := hk.dead hv
             omega)
      · repeat' (first | refine gE_x ?_ | refine gP_FT ?_ | refine pk_y (by first | with_reducible assumption | omega) rfl ?_ | refine pk_n (by first | with_reducible assumption | omega) rfl ?_ | refine pk_F rfl ?_ | refine prP_eqd ?_ | refine gP_dt (fun _ => ?_) (fun _ => ?_) | refine prP_not ?_)
        all_goals
          refine h2 fun hk => ?_
          have h4 := hk.dead hv
          rw [hpu] at h4
          first
            | omega
            | exact absurd h4.2.2.2.2 (by decide)
    | true =>
      refine prP_not (cndP_F ?_)
      have fin : 1 ≤ (ob h.objs i).gen → (0 ≤ (ob h.objs i).site ∧ (ob h.objs i).site ≤ (h.sites.length : Int) - 1) → (0 ≤ (ob h.objs i).holds ∧ (ob h.objs i).holds ≤ 20) → (0 ≤ (ob h.objs i).roots ∧ (ob h.objs i).roots ≤ 20) → (ob h.objs i).count = (ob h.objs i).holds + (ob h.objs i).roots + inE h.objs i → 1 ≤ (ob h.objs i).count → K [.bool (decide ((ob h.objs i).purple = decide (idOf i (ob h.objs i).gen ∈ h.buffer)))] [] := fun a b c d e f => by
        by_cases hp : (ob h.objs i).purple = decide (idOf i (ob h.objs i).gen ∈ h.buffer)
        · rw [decide_eq_true hp]
          exact h1 ⟨hg, hl3, hP, fun hh => (by rw [hv] at hh; cases hh), fun _ => ⟨a, b, c, d, e, f, hp⟩⟩
        · rw [decide_eq_false hp]
          exact h2 fun hk => hp (hk.lv hv).2.2.2.2.2.2
      have no : ∀ {P : Prop}, ¬ P → (ObjOk h i → P) → K [.bool false] [] := fun hp hi => h2 fun hk => hp (hi hk)
      repeat' (first | refine impl_in_d ?_ | refine impl_InEdges_c ⟨by omega, by omega⟩ (by omega) hf.of ?_ | refine impl_IdOf_c ?_ | refine impl_hasInt_c (by omega) ?_ | refine gE_x ?_ | refine gP_FT ?_ | refine gP_yt (by first | with_reducible assumption | omega) ?_ | refine gP_nt (by first | with_reducible assumption | omega) ?_ | refine pk_y (by first | with_reducible assumption | omega) rfl ?_ | refine pk_n (by first | with_reducible assumption | omega) rfl ?_ | refine pk_F rfl ?_ | refine prP_leq ?_ | refine prP_eqd ?_ | refine prP_add ⟨by omega, by omega⟩ ?_ | refine prP_sub ⟨by omega, by omega⟩ ?_ | refine prP_eqB ?_ | refine gP_dt (fun _ => ?_) (fun _ => ?_))
      all_goals first
        | exact fin (by assumption) (by assumption) (by assumption) (by assumption) (by assumption) (by assumption)
        | (refine h2 fun hk => ?_
           have h4 := hk.lv hv
           omega)
end Go.Proofs.Ytnhicpkhkaihoaa.P
/- Right heaps, as a whole. -/
namespace Go.Proofs.Ytnhicpkhkaihoaa.P
open Go Go.Proofs.Ytnhicpkhkaihoaa Go.Proofs.Ytnhicpkhkaihoaa.Eng
set_option maxHeartbeats 4000000
set_option linter.unusedVariables false
set_option linter.unusedSimpArgs false
attribute [local irreducible] prP gP gE gF cndP ixW ldc ldg ldl stc stg scW mkW apW loopP cl2 joinP pre2 selW
variable {w0 : World}
theorem impl_HeapOk_c {h : Hp} {K : J2} (hf : Fits h) (hn : Nums h) (h1 : HeapOk h → K [.bool true] []) (h2 : ¬ HeapOk h → K [.bool false] []) : cl2 ⟨Try.prog, w0⟩ 142 impl_HeapOk.sg [] (trees h) K := by
  have g1 := hf.ol; have g2 := hf.wl; have g3 := hf.sl; have g4 := hf.bl
  refine impl_HeapOk.cl2 ?_
  unfold impl_HeapOk.txt
  simp only [cnt_tO, cnt_tW, cnt_tP, cnt_tA, cnt_tN, cnt_tI, cnt_tS, cnt1_1, cnt1_0, cnt2_1, cnt3_1, cnt5_1, cnt6_1, cnt8_1, nx_0, nx_1, nx_2, nx_3, nx_4, nx_5, nx_6, nxc_0, nxc_1, nxc_2, nxc_3, nxc_4, nxc_5]
  refine prP_ned (gE_x (gE_x (gE_x (gP_df (fun ho => ?_) fun ho => ?_))))
  rotate_left
  · refine pk_y ho rfl (gE_x (gE_x (gP_TF (gP_TF (pk_T rfl (cndP_T (h2 fun hk => ho (by have := hk.ol; omega))))))))
  refine prP_ned (pk_n ho rfl (gE_x (gE_x (gP_df (fun hw => ?_) fun hw => ?_))))
  rotate_left
  · exact gP_yf hw (pk_y hw rfl (cndP_T (h2 fun hk => hw (by have := hk.wl; omega))))
  refine impl_sitesOk_c (by omega) (fun hs => ?_) fun hs => ?_
  rotate_left
  · exact gP_nf hw (prP_not (pk_n hw rfl (cndP_T (h2 fun hk => hs hk.sites))))
  refine gP_nf hw (prP_not (pk_n hw rfl (cndP_F ?_)))
  have o8 : h.objs.length = 8 := by omega
  have w8 : h.weaks.length = 8 := by omega
  refine loopP_from (fun i => [iv h.objs.length, iv i]) (fun _ => []) h.objs.length (fun i => ∀ k, k < i → ObjOk h k) rfl rfl (fun k hk => by omega) (fun R i hi hP hR => ?_)
  refine prP_lss (cndP_d (fun hlt => ?_) fun hge => ?_)
  · have hlt : i < h.objs.length := by omega
    refine impl_objOk_c hf hn hlt (fun hk => prP_not (cndP_F (prP_inc (by omega) (hR hlt fun k hki => ?_)))) fun hk => prP_not (cndP_T (h2 fun hh => hk (hh.obj i (by omega))))
    rcases Nat.lt_succ_iff_lt_or_eq.1 hki with h4 | rfl
    · exact hP k h4
    · exact hk
  have hi8 : i = 8 := by omega
  subst hi8
  refine loopP_from (fun i => [iv h.weaks.length, iv i]) (fun _ => []) h.weaks.length (fun i => ∀ k, k < i → ((wk h.weaks k).used = false → (wk h.weaks k).target = 0) ∧ ((wk h.weaks k).used = true → 8 ≤ (wk h.weaks k).target ∧ (wk h.weaks k).target ≤ 7999)) rfl rfl (fun k hk => by omega) (fun R2 i hi hP2 hR2 => ?_)
  refine prP_lss (cndP_d (fun hlt => ?_) fun hge => ?_)
  · have hlt : i < h.weaks.length := by omega
    refine ixW_iv hlt (ldg_wk hlt ?_)
    have stepR := fun hk => hR2 hlt fun k hki => (Nat.lt_succ_iff_lt_or_eq.1 hki).elim (hP2 k) fun he => he ▸ hk
    cases hu : (wk h.weaks i).used with
    | false =>
      refine prP_not ?_
      repeat' (first | refine gE_x ?_ | refine gE_sb ?_ | refine gP_sFf ?_ | refine gP_snf (by first | with_reducible assumption | omega) ?_ | refine gP_syf (by first | with_reducible assumption | omega) ?_ | refine gP_FF ?_ | refine gP_yf (by first | with_reducible assumption | omega) ?_ | refine gP_nf (by first | with_reducible assumption | omega) ?_ | refine gP_offt (by with_reducible assumption) ?_ | refine pk_t (by with_reducible assumption) rfl ?_ | refine pk_f (by with_reducible assumption) rfl ?_ | refine pk_y (by first | with_reducible assumption | omega) rfl ?_ | refine pk_n (by first | with_reducible assumption | omega) rfl ?_ | refine pk_F rfl ?_ | refine cndP_T ?_ | refine cndP_F ?_ | refine prP_ned ?_ | refine prP_inc (by omega) ?_ | refine gP_sdf (fun _ => ?_) (fun _ => ?_) | refine gP_ct (fun _ => ?_) (fun _ => ?_) | simp only [cnt_tO, cnt_tW, cnt_tP, cnt_tA, cnt_tN, cnt_tI, cnt_tS, cnt1_1, cnt1_0, cnt2_1, cnt3_1, cnt5_1, cnt6_1, cnt8_1, nx_0, nx_1, nx_2, nx_3, nx_4, nx_5, nx_6, nxc_0, nxc_1, nxc_2, nxc_3, nxc_4, nxc_5])
      all_goals first
        | (refine stepR ⟨fun _ => ?_, fun hh => (by rw [hu] at hh; cases hh)⟩
           first
             | omega
             | (simp_all; done))
        | (refine h2 fun hk => ?_
           have h4 := (hk.weak i (by omega)).1 hu
           first
             | omega
             | (simp_all; done))
    | true =>
      refine prP_not ?_
      repeat' (first | refine impl_in_d ?_ | refine gE_x ?_ | refine gE_sb ?_ | refine gP_sFf ?_ | refine gP_snf (by first | with_reducible assumption | omega) ?_ | refine gP_syf (by first | with_reducible assumption | omega) ?_ | refine gP_FF ?_ | refine gP_yf (by first | with_reducible assumption | omega) ?_ | refine gP_nf (by first | with_reducible assumption | omega) ?_ | refine gP_on (by with_reducible assumption) ?_ | refine pk_t (by with_reducible assumption) rfl ?_ | refine pk_f (by with_reducible assumption) rfl ?_ | refine pk_y (by first | with_reducible assumption | omega) rfl ?_ | refine pk_n (by first | with_reducible assumption | omega) rfl ?_ | refine pk_F rfl ?_ | refine cndP_T ?_ | refine cndP_yes (by first | with_reducible assumption | omega) ?_ | refine prP_ned ?_ | refine prP_notd ?_ | refine prP_inc (by omega) ?_ | refine cndP_d (fun _ => ?_) (fun _ => ?_) | refine gP_sdf (fun _ => ?_) (fun _ => ?_) | refine gP_ct (fun _ => ?_) (fun _ => ?_) | simp only [cnt_tO, cnt_tW, cnt_tP, cnt_tA, cnt_tN, cnt_tI, cnt_tS, cnt1_1, cnt1_0, cnt2_1, cnt3_1, cnt5_1, cnt6_1, cnt8_1, nx_0, nx_1, nx_2, nx_3, nx_4, nx_5, nx_6, nxc_0, nxc_1, nxc_2, nxc_3, nxc_4, nxc_5])
      all_goals first
        | (refine stepR ⟨fun hh => (by rw [hu] at hh; cases hh), fun _ => ?_⟩
           first
             | omega
             | (simp_all; done))
        | (refine h2 fun hk => ?_
           have h4 := (hk.weak i (by omega)).2 hu
           first
             | omega
             | (simp_all; done))
  have hi8 : i = 8 := by omega
  subst hi8
  refine loopP_from (fun i => [iv h.buffer.length, iv i]) (fun _ => []) h.buffer.length (fun i => ∀ k, k < i → 0 ≤ slotOf h.objs (gI h.buffer k) ∧ gI h.buffer k ∉ h.buffer.take k) rfl rfl (fun k hk => by omega) (fun R3 i hi hP3 hR3 => ?_)
  simp only [cnt_tO, cnt_tW, cnt_tP, cnt_tA, cnt_tN, cnt_tI, cnt_tS, cnt1_1, cnt1_0, cnt2_1, cnt3_1, cnt5_1, cnt6_1, cnt8_1, nx_0, nx_1, nx_2, nx_3, nx_4, nx_5, nx_6, nxc_0, nxc_1, nxc_2, nxc_3, nxc_4, nxc_5]
  refine prP_lss (cndP_d (fun hlt => ?_) fun hge => ?_)
  · have hlt : i < h.buffer.length := by omega
    have e : sub2 (tI h.buffer) [] (natOf (fst2 (two (iv 0) (iv i))) * 1) (natOf (snd2 (two (iv 0) (iv i))) * 1) = tI (h.buffer.take i) := by
      have h1 : natOf (fst2 (two (iv 0) (iv i))) = 0 := rfl
      have h2 : natOf (snd2 (two (iv 0) (iv i))) = i := natOf_iv i
      rw [h1, h2]; simp [sub2, node, tI, List.map_take]
    refine ixW_iv hlt (ldI hlt (impl_SlotOf_c (hn.bf i) (by omega) (prP_lss (gE_x (gE_x (gE_x (gP_df (fun hb => ?_) fun hb => ?_)))))))
    · refine scW_to (by omega) (gE_x (gP_nf hb ?_))
      rw [e]
      refine impl_hasInt_c (by simp; omega) (pk_n hb rfl (cndP_d (fun hm => h2 fun hk => (hk.buf i hlt).2 hm) fun hm => ?_))
      refine prP_inc (by omega) (hR3 hlt fun k hk => ?_)
      rcases Nat.lt_succ_iff_lt_or_eq.1 hk with h3 | rfl
      · exact hP3 k h3
      · exact ⟨by omega, hm⟩
    · exact gE_x (gP_yf hb (pk_y hb rfl (cndP_T (h2 fun hk => by have := (hk.buf i hlt).1; omega))))
  · have hib : i = h.buffer.length := by omega
    subst hib
    exact h1 ⟨o8, w8, hs, fun i hi => hP i hi, fun i hi => hP2 i hi, fun i hi => hP3 i hi⟩
end Go.Proofs.Ytnhicpkhkaihoaa.P
/- Gaining and losing. -/
namespace Go.Proofs.Ytnhicpkhkaihoaa.P
open Go Go.Proofs.Ytnhicpkhkaihoaa Go.Proofs.Ytnhicpkhkaihoaa.Eng
set_option linter.unusedVariables false
theorem scW_1 {n : Nat} (hn : 1 ≤ n) {K : Value → Value → Prop} (h : K (iv 1) (iv (n - 1))) : scW n (some (.int .i64 1)) none K := ⟨1, n, rfl, rfl, hn, Nat.le_refl _, h⟩
set_option maxHeartbeats 4000000
set_option linter.unusedVariables false
set_option linter.unusedSimpArgs false
attribute [local irreducible] prP gP gE gF cndP ixW ldc ldg ldl stc stg scW mkW apW loopP cl2 joinP pre2 selW
variable {w0 : World}
def none3 : List Int := [-1, -1, -1]
def freeO (g : Int) : HObj := ⟨false, g, 0, 0, 0, 0, none3, false⟩
def loseF : Nat → List HObj → List Int → List Int → List Int → List HObj × List Int × List Int
  | 0, os, buf, freed, _ => (os, buf, freed)
  | f + 1, os, buf, freed, todo => match todo with
    | [] => (os, buf, freed)
    | id :: todo => if freed.length > 8 then (os, buf, freed) else
      if slotOf os id < 0 then loseF f os buf freed todo else
      if w64 ((ob os (slotOf os id).toNat).count - 1) > 0 then
        (if (ob os (slotOf os id).toNat).purple = true then loseF f (os.set (slotOf os id).toNat { ob os (slotOf os id).toNat with count := w64 ((ob os (slotOf os id).toNat).count - 1) }) buf freed todo
         else loseF f (os.set (slotOf os id).toNat { ob os (slotOf os id).toNat with count := w64 ((ob os (slotOf os id).toNat).count - 1), purple := true }) (buf ++ [id]) freed todo)
      else loseF f (os.set (slotOf os id).toNat (freeO (ob os (slotOf os id).toNat).gen)) (buf.filter fun x => decide (x ≠ id)) (freed ++ [id]) (todo ++ (ob os (slotOf os id).toNat).field.filter fun x => decide (0 ≤ x))
def mu (freed todo : List Int) : Nat := todo.length + 4 * (9 - freed.length)
def loseM (os : List HObj) (buf ids : List Int) : List HObj × List Int × List Int := loseF (ids.length + 37) os buf [] ids
theorem slotOf_bd {l : List HObj} {id : Int} (h : 0 ≤ slotOf l id) : l.length = 8 ∧ 8 ≤ id ∧ slotOf l id = id % 8 ∧ (slotOf l id).toNat < 8 ∧ (ob l (slotOf l id).toNat).live = true ∧ (ob l (slotOf l id).toNat).gen = id / 8 := by
  unfold slotOf at h ⊢
  split at h
  · omega
  · split at h
    · rename_i h1 h2
      rw [if_neg h1, if_pos h2]
      exact ⟨by omega, by omega, rfl, by omega, h2.1, h2.2⟩
    · omega
/-- What an object may be. -/
structure OF (o : HObj) : Prop where
  gen : F64 o.gen
  len : o.field.length = 3
  fld : ∀ f ∈ o.field, F64 f
theorem OF.free {g : Int} (h : F64 g) : OF (freeO g) := ⟨h, rfl, by simp [freeO, none3, F64]⟩
theorem of_set {l : List HObj} {P : HObj → Prop} {i : Nat} {o : HObj} (h : ∀ x ∈ l, P x) (ho : P o) : ∀ x ∈ l.set i o, P x := fun x hx => (List.mem_or_eq_of_mem_set hx).elim (h x) fun he => he ▸ ho
/-- At the head of the loop: the row of what waits, from a place on. -/
structure LsI (R : List HObj × List Int × List Int) (M : Nat) (q : List HObj × List Int × List Int × List Int × Nat) : Prop where
  ol : q.1.length = 8
  of : ∀ o ∈ q.1, OF o
  fr : q.2.2.1.length ≤ 9
  off : q.2.2.2.2 ≤ q.2.2.2.1.length
  td : ∀ x ∈ q.2.2.2.1.drop q.2.2.2.2, F64 x
  sz : q.2.1.length + mu q.2.2.1 (q.2.2.2.1.drop q.2.2.2.2) ≤ M
  go : ∃ f, mu q.2.2.1 (q.2.2.2.1.drop q.2.2.2.2) < f ∧ loseF f q.1 q.2.1 q.2.2.1 (q.2.2.2.1.drop q.2.2.2.2) = R
theorem impl_without_c {l : List Int} {x : Int} {K : J2} (hl : (l.length : Int) ≤ 2 ^ 40) (h : K [] [tI (l.filter fun y => decide (y ≠ x))]) : cl2 ⟨Try.prog, w0⟩ 232 impl_without.sg [I x] [tI l] K := by
  refine impl_without.cl2 ?_
  unfold impl_without.txt
  simp only [cnt_tO, cnt_tW, cnt_tP, cnt_tA, cnt_tN, cnt_tI, cnt_tS, cnt1_1, cnt1_0, cnt2_1, cnt3_1, cnt5_1, cnt6_1, cnt8_1, nx_0, nx_1, nx_2, nx_3, nx_4, nx_5, nx_6, nxc_0, nxc_1, nxc_2, nxc_3, nxc_4, nxc_5]
  refine loopP_from (fun i => [I x, iv l.length, iv i]) (fun i => [tI ((l.take i).filter fun y => decide (y ≠ x))]) l.length (fun _ => True) rfl rfl trivial (fun R i hi _ hR => ?_)
  have hln := List.length_filter_le (fun y => decide (y ≠ x)) (l.take i)
  have hlt2 : (l.take i).length ≤ i := by simp; omega
  simp only [cnt_tO, cnt_tW, cnt_tP, cnt_tA, cnt_tN, cnt_tI, cnt_tS, cnt1_1, cnt1_0, cnt2_1, cnt3_1, cnt5_1, cnt6_1, cnt8_1, nx_0, nx_1, nx_2, nx_3, nx_4, nx_5, nx_6, nxc_0, nxc_1, nxc_2, nxc_3, nxc_4, nxc_5]
  refine prP_lss (cndP_d (fun hlt => ?_) fun hge => ?_)
  · have hlt : i < l.length := by omega
    replace hR := hR hlt trivial
    rw [List.take_succ_eq_append_getElem hlt, List.filter_append, gI_eq hlt] at hR
    refine joinP_k (ixW_iv hlt (ldI hlt (prP_ned (cndP_d (fun he => ?_) fun he => ?_))))
    · refine apW_p rfl (by omega) (prP_inc (by omega) ?_)
      have e : ([gI l i].filter fun y => decide (y ≠ x)) = [gI l i] := by simp [he]
      rw [e, ← tI_snoc] at hR; exact hR
    · refine prP_inc (by omega) ?_
      have e : ([gI l i].filter fun y => decide (y ≠ x)) = [] := by simp at he; simp [he]
      rw [e, List.append_nil] at hR; exact hR
  · have : i = l.length := by omega
    subst this
    rw [List.take_length]; exact h
theorem spec_l6Without_c {l : List Int} {x : Int} {K : J2} (hl : (l.length : Int) ≤ 2 ^ 40) (h : K [] [tI (l.filter fun y => decide (y ≠ x))]) : cl2 ⟨Try.prog, w0⟩ 224 spec_l6Without.sg [I x] [tI l] K := by
  refine spec_l6Without.cl2 ?_
  unfold spec_l6Without.txt
  simp only [cnt_tO, cnt_tW, cnt_tP, cnt_tA, cnt_tN, cnt_tI, cnt_tS, cnt1_1, cnt1_0, cnt2_1, cnt3_1, cnt5_1, cnt6_1, cnt8_1, nx_0, nx_1, nx_2, nx_3, nx_4, nx_5, nx_6, nxc_0, nxc_1, nxc_2, nxc_3, nxc_4, nxc_5]
  refine loopP_from (fun i => [I x, iv i]) (fun i => [tI ((l.take i).filter fun y => decide (y ≠ x))]) l.length (fun _ => True) rfl rfl trivial (fun R i hi _ hR => ?_)
  have hln := List.length_filter_le (fun y => decide (y ≠ x)) (l.take i)
  have hlt2 : (l.take i).length ≤ i := by simp; omega
  simp only [cnt_tO, cnt_tW, cnt_tP, cnt_tA, cnt_tN, cnt_tI, cnt_tS, cnt1_1, cnt1_0, cnt2_1, cnt3_1, cnt5_1, cnt6_1, cnt8_1, nx_0, nx_1, nx_2, nx_3, nx_4, nx_5, nx_6, nxc_0, nxc_1, nxc_2, nxc_3, nxc_4, nxc_5]
  refine prP_lss (cndP_d (fun hlt => ?_) fun hge => ?_)
  · have hlt : i < l.length := by omega
    replace hR := hR hlt trivial
    rw [List.take_succ_eq_append_getElem hlt, List.filter_append, gI_eq hlt] at hR
    refine joinP_k (ixW_iv hlt (ldI hlt (prP_ned (cndP_d (fun he => ?_) fun he => ?_))))
    · refine ixW_iv hlt (ldI hlt (apW_p rfl (by omega) (prP_inc (by omega) ?_)))
      have e : ([gI l i].filter fun y => decide (y ≠ x)) = [gI l i] := by simp [he]
      rw [e, ← tI_snoc] at hR; exact hR
    · refine prP_inc (by omega) ?_
      have e : ([gI l i].filter fun y => decide (y ≠ x)) = [] := by simp at he; simp [he]
      rw [e, List.append_nil] at hR; exact hR
  · have : i = l.length := by omega
    subst this
    rw [List.take_length]; exact h
theorem impl_free_c {g : Value} {K : J2} (h : K [.bool false, g, I 0, I 0, I 0, I 0, .bool false] [tI none3]) : cl2 ⟨Try.prog, w0⟩ 182 impl_free.sg [g] [] K := impl_free.cl2 h
theorem ldc_pl {l : List Int} {a : Nat} {K : Value → Prop} (ha : a < l.length) (h : K (I (gI l a))) : ldc (tI l) [] (a + natOf (iv 0) * 1) K := by
  have e : a + natOf (iv 0) * 1 = natOf (iv a) * 1 := by rw [natOf_iv, natOf_iv]; omega
  rw [e]; exact ldI ha h
theorem drop_cons {l : List Int} {a : Nat} (ha : a < l.length) : l.drop a = gI l a :: l.drop (a + 1) := by rw [List.drop_eq_getElem_cons ha, gI_eq ha]
theorem mu_cons {freed todo : List Int} {x : Int} : mu freed (x :: todo) = mu freed todo + 1 := by simp only [mu, List.length_cons]; omega
theorem ob_mem {l : List HObj} {i : Nat} (h : i < l.length) : ob l i ∈ l := by rw [← ob_eq h]; exact List.getElem_mem h
theorem tR_ob {l : List HObj} {i : Nat} (h : i < l.length) : tR tO l = tR tO (l.set i (ob l i)) := by rw [← ob_eq h]; exact tR_same h
theorem LsI.start {os : List HObj} {buf ids : List Int} (hol : os.length = 8) (hof : ∀ o ∈ os, OF o) (hid : ∀ x ∈ ids, F64 x) : LsI (loseM os buf ids) (buf.length + ids.length + 36) (os, buf, [], ids, 0) :=
  ⟨hol, hof, Nat.zero_le _, Nat.zero_le _, by simpa using hid, by simp only [mu, List.drop_zero, List.length_nil]; omega, ids.length + 37, by simp only [mu, List.drop_zero, List.length_nil]; omega, rfl⟩
section
variable {R : List HObj × List Int × List Int} {M : Nat} {os : List HObj} {buf freed row : List Int} {off : Nat}
/-- The loop ends. -/
theorem LsI.stop (h : LsI R M (os, buf, freed, row, off)) (hs : row.length ≤ off ∨ 8 < freed.length) : R = (os, buf, freed) := by
  obtain ⟨_, _, _, _, _, _, f, hf, go⟩ := h
  simp only at hf go
  obtain ⟨f, rfl⟩ : ∃ f', f = f' + 1 := ⟨f - 1, by omega⟩
  rcases hs with hs | hs
  · rw [List.drop_of_length_le hs] at go
    rw [← go]; rfl
  · rw [← go]
    cases row.drop off with
    | nil => rfl
    | cons x l => simp only [loseF, if_pos hs]
theorem LsI.step (h : LsI R M (os, buf, freed, row, off)) (hlt : off < row.length) (hfr : freed.length ≤ 8) : F64 (gI row off) ∧ ∃ f, mu freed (row.drop (off + 1)) < f ∧ loseF (f + 1) os buf freed (gI row off :: row.drop (off + 1)) = R ∧ buf.length + mu freed (row.drop (off + 1)) + 1 ≤ M ∧ ∀ x ∈ row.drop (off + 1), F64 x := by
  obtain ⟨_, _, _, _, td, sz, f, hf, go⟩ := h
  simp only at td sz hf go
  rw [drop_cons hlt] at td sz hf go
  rw [mu_cons] at sz hf
  obtain ⟨f, rfl⟩ : ∃ f', f = f' + 1 := ⟨f - 1, by omega⟩
  exact ⟨td _ (by simp), f, by omega, go, by omega, fun x hx => td x (by simp [hx])⟩
theorem LsI.skip (h : LsI R M (os, buf, freed, row, off)) (hlt : off < row.length) (hfr : freed.length ≤ 8) (hs : slotOf os (gI row off) < 0) : LsI R M (os, buf, freed, row, off + 1) := by
  obtain ⟨_, f, h1, h2, h3, h4⟩ := h.step hlt hfr
  rw [loseF] at h2
  simp only at h2
  rw [if_neg (by omega), if_pos hs] at h2
  exact ⟨h.ol, h.of, h.fr, hlt, h4, by simp only; omega, f, h1, h2⟩
theorem LsI.keep (h : LsI R M (os, buf, freed, row, off)) (hlt : off < row.length) (hfr : freed.length ≤ 8) (hs : 0 ≤ slotOf os (gI row off)) (hc : w64 ((ob os (slotOf os (gI row off)).toNat).count - 1) > 0) (hp : (ob os (slotOf os (gI row off)).toNat).purple = true) :
    LsI R M (os.set (slotOf os (gI row off)).toNat { ob os (slotOf os (gI row off)).toNat with count := w64 ((ob os (slotOf os (gI row off)).toNat).count - 1) }, buf, freed, row, off + 1) := by
  obtain ⟨_, f, h1, h2, h3, h4⟩ := h.step hlt hfr
  have hk := slotOf_bd hs
  have ho := h.of _ (ob_mem (l := os) (i := (slotOf os (gI row off)).toNat) (by omega))
  rw [loseF] at h2
  simp only at h2
  rw [if_neg (by omega), if_neg (by omega), if_pos hc, if_pos hp] at h2
  exact ⟨by simp only [List.length_set]; exact h.ol, of_set h.of ⟨ho.gen, ho.len, ho.fld⟩, h.fr, hlt, h4, by simp only; omega, f, h1, h2⟩
theorem LsI.put (h : LsI R M (os, buf, freed, row, off)) (hlt : off < row.length) (hfr : freed.length ≤ 8) (hs : 0 ≤ slotOf os (gI row off)) (hc : w64 ((ob os (slotOf os (gI row off)).toNat).count - 1) > 0) (hp : (ob os (slotOf os (gI row off)).toNat).purple = false) :
    LsI R M (os.set (slotOf os (gI row off)).toNat { ob os (slotOf os (gI row off)).toNat with count := w64 ((ob os (slotOf os (gI row off)).toNat).count - 1), purple := true }, buf ++ [gI row off], freed, row, off + 1) := by
  obtain ⟨_, f, h1, h2, h3, h4⟩ := h.step hlt hfr
  have hk := slotOf_bd hs
  have ho := h.of _ (ob_mem (l := os) (i := (slotOf os (gI row off)).toNat) (by omega))
  rw [loseF] at h2
  simp only at h2
  rw [if_neg (by omega), if_neg (by omega), if_pos hc, if_neg (by rw [hp]; decide)] at h2
  exact ⟨by simp only [List.length_set]; exact h.ol, of_set h.of ⟨ho.gen, ho.len, ho.fld⟩, h.fr, hlt, h4, by simp only [List.length_append, List.length_singleton]; omega, f, h1, h2⟩
theorem LsI.free (h : LsI R M (os, buf, freed, row, off)) (hlt : off < row.length) (hfr : freed.length ≤ 8) (hs : 0 ≤ slotOf os (gI row off)) (hc : ¬ w64 ((ob os (slotOf os (gI row off)).toNat).count - 1) > 0) {row' : List Int} {off' : Nat} (hrow : row'.drop off' = row.drop (off + 1) ++ (ob os (slotOf os (gI row off)).toNat).field.filter fun x => decide (0 ≤ x)) (hle : off' ≤ row'.length) :
    LsI R M (os.set (slotOf os (gI row off)).toNat (freeO (ob os (slotOf os (gI row off)).toNat).gen), buf.filter fun x => decide (x ≠ gI row off), freed ++ [gI row off], row', off') := by
  obtain ⟨_, f, h1, h2, h3, h4⟩ := h.step hlt hfr
  have hk := slotOf_bd hs
  have ho := h.of _ (ob_mem (l := os) (i := (slotOf os (gI row off)).toNat) (by omega))
  have hfl := List.length_filter_le (fun x => decide (0 ≤ x)) (ob os (slotOf os (gI row off)).toNat).field
  have hbl := List.length_filter_le (fun x => decide (x ≠ gI row off)) buf
  rw [ho.len] at hfl
  rw [loseF] at h2
  simp only at h2
  rw [if_neg (by omega), if_neg (by omega), if_neg hc] at h2
  have hmu : mu (freed ++ [gI row off]) (row'.drop off') ≤ mu freed (row.drop (off + 1)) := by
    rw [hrow]; simp only [mu, List.length_append, List.length_singleton]; omega
  refine ⟨by simp only [List.length_set]; exact h.ol, of_set h.of (OF.free ho.gen), by simp only [List.length_append, List.length_singleton]; omega, hle, fun x hx => ?_, by simp only; omega, f, by simp only; omega, by rw [← h2, hrow]⟩
  simp only at hx
  rw [hrow] at hx
  rcases List.mem_append.1 hx with hx | hx
  · exact h4 x hx
  · exact ho.fld x (List.mem_filter.1 hx).1
end
section
variable {cur : List HObj} {k : Nat} {y : HObj}
theorem sub_f (hk : k < cur.length) : subN (tR tO (cur.set k y)) [k * 8 + 6] = tI y.field := by have := sbS_HObj_field (y := y) hk; rwa [natOf_iv] at this
theorem ldc_f {i : Nat} {K : Value → Prop} (hk : k < cur.length) (hi : i < y.field.length) (h : K (I (gI y.field i))) : ldc (tR tO (cur.set k y)) [k * 8 + 6] i K := by
  have := ldf_ob (l := cur.set k y) (i := k) (j := i) (K := K) (by simpa using hk) (by rw [← ob_eq (by simpa using hk), List.getElem_set_self]; exact hi) (by rw [← ob_eq (by simpa using hk), List.getElem_set_self]; exact h)
  simpa only [natOf_iv, Nat.mul_one] using this
theorem ldc_g {K : Value → Prop} (hk : k < cur.length) (h : K (I y.gen)) : ldc (tR tO (cur.set k y)) [] (k * 8 + 1) K := by
  have := ldc_tRs (f := tO) (K := K) (c := 1) (y := y) hk (by decide) rfl h
  rwa [natOf_iv] at this
theorem stg_f {ts : List T} {z : HObj} {K : List T → Prop} (hk : k < cur.length) (hy : ts = tO z) (h : K (tR tO (cur.set k z))) : stg (tR tO (cur.set k y)) [] (k * 8) ts K := by
  have := stg_tR (f := tO) (l := cur.set k y) (K := K) (by simpa using hk) hy (by rw [List.set_set]; exact h)
  rwa [natOf_iv] at this
theorem sub2_pl1 (l : List Int) (a m : Nat) : sub2 (tI l) [] a m = tI ((l.drop a).take m) := by simp [sub2, node, tI, List.map_drop, List.map_take]
end
theorem impl_lose_c {os : List HObj} {buf ids : List Int} {b d : List T} {K : J2} (hol : os.length = 8) (hof : ∀ o ∈ os, OF o) (hb : buf.length ≤ 2 ^ 30) (hi : ids.length ≤ 2 ^ 30) (hid : ∀ x ∈ ids, F64 x) (h : K [] [tI (loseM os buf ids).2.2, tR tO (loseM os buf ids).1, tI (loseM os buf ids).2.1]) : cl2 ⟨Try.prog, w0⟩ 217 impl_Heap_lose.sg [] [tR tO os, b, tI buf, d, tI ids] K := by
  refine impl_Heap_lose.cl2 ?_
  unfold impl_Heap_lose.txt
  refine impl_copyInts_c (by omega) ?_
  obtain ⟨R, hR0⟩ : ∃ R, loseM os buf ids = R := ⟨_, rfl⟩
  have st := LsI.start (buf := buf) hol hof hid
  rw [hR0] at st h
  simp only [cnt_tO, cnt_tW, cnt_tP, cnt_tA, cnt_tN, cnt_tI, cnt_tS, cnt1_1, cnt1_0, cnt2_1, cnt3_1, cnt5_1, cnt6_1, cnt8_1, nx_0, nx_1, nx_2, nx_3, nx_4, nx_5, nx_6, nxc_0, nxc_1, nxc_2, nxc_3, nxc_4, nxc_5]
  refine loopP_wf (α := List HObj × List Int × List Int × List Int × Nat) (fun q => [iv (q.2.2.2.1.length - q.2.2.2.2), iv q.2.2.2.2]) (fun q => [tI q.2.2.1, tI q.2.2.2.1, tR tO q.1, tI q.2.1]) (fun q => mu q.2.2.1 (q.2.2.2.1.drop q.2.2.2.2)) (LsI R (buf.length + ids.length + 36)) (os, buf, [], ids, 0) rfl rfl st (fun Rr q hq hR => ?_)
  obtain ⟨os, bf, freed, row, off⟩ := q
  have hq' : LsI R (buf.length + ids.length + 36) (os, bf, freed, row, off) := hq
  obtain ⟨ol, of, fr, ofl, td, sz, _⟩ := id hq'
  simp only at ol of fr ofl td sz
  have hmz : mu freed (row.drop off) = (row.length - off) + 4 * (9 - freed.length) := by simp [mu]
  simp only [cnt_tO, cnt_tW, cnt_tP, cnt_tA, cnt_tN, cnt_tI, cnt_tS, cnt1_1, cnt1_0, cnt2_1, cnt3_1, cnt5_1, cnt6_1, cnt8_1, nx_0, nx_1, nx_2, nx_3, nx_4, nx_5, nx_6, nxc_0, nxc_1, nxc_2, nxc_3, nxc_4, nxc_5]
  simp only [natOf_iv]
  refine prP_gtr (gE_x (gE_x (gP_dt (fun hlt => ?_) fun hge => ?_)))
  rotate_left
  · refine pk_n hge rfl (cndP_F ?_)
    have := hq'.stop (.inl (by
      have : ¬ (((row.length - off : Nat) : Int) > 0) := hge
      omega))
    rw [this] at h; exact h
  have hlt' : off < row.length := by
    have : ((row.length - off : Nat) : Int) > 0 := hlt
    omega
  refine prP_leq (pk_y hlt rfl (cndP_d (fun h8 => ?_) fun h8 => ?_))
  rotate_left
  · have := hq'.stop (.inr (by omega))
    rw [this] at h; exact h
  have h8' : freed.length ≤ 8 := by omega
  obtain ⟨hidf, _⟩ := hq'.step hlt' h8'
  refine ixW_iv (j := 0) (by omega) (ldc_pl hlt' (scW_1 (by omega) (impl_SlotOf_c hidf (by omega) ?_)))
  have e1 : off + natOf (iv 1) * 1 = off + 1 := by rw [natOf_iv]
  have e2 : row.length - off - 1 = row.length - (off + 1) := by omega
  simp only [natOf_iv, e2, Nat.mul_one, nx_0]
  have mu1 : mu freed (row.drop (off + 1)) < mu freed (row.drop off) := by rw [drop_cons hlt', mu_cons]; omega
  refine prP_lss (cndP_d (fun hs => hR (os, bf, freed, row, off + 1) (hq'.skip hlt' h8' hs) mu1) fun hs => ?_)
  have hs' : 0 ≤ slotOf os (gI row off) := by omega
  have hk := slotOf_bd hs'
  have n1 := hq'.keep hlt' h8' hs'
  have n2 := hq'.put hlt' h8' hs'
  have n3 := fun hc row' off' => hq'.free hlt' h8' hs' hc (row' := row') (off' := off')
  have hobf := of _ (ob_mem (l := os) (i := (slotOf os (gI row off)).toNat) (by omega))
  generalize hgid : gI row off = id at *
  obtain ⟨k, hkk⟩ : ∃ k, (slotOf os id).toNat = k := ⟨_, rfl⟩
  have hkI : slotOf os id = (k : Int) := by omega
  rw [hkk] at hk n1 n2 n3 hobf
  rw [hkI]
  have hkl : k < os.length := by omega
  rw [tR_ob hkl]
  generalize ho : ob os k = o at *
  refine ixW_iv (by omega) (ldc_tRs (i := k) hkl (by decide) rfl (prP_subw (stS_HObj_count hkl ?_)))
  generalize hcc : w64 (o.count - 1) = c at *
  refine ldc_tRs (v := I c) (i := k) hkl (by decide) rfl ?_
  refine prP_gtr (gE_x (gE_x (gE_x (gP_dt (fun hc => ?_) fun hc => ?_))))
  · refine ldc_tRs (v := .bool o.purple) (i := k) hkl (by decide) rfl (gP_yt hc (prP_not (pk_y hc rfl ?_)))
    cases hp : o.purple with
    | false =>
      refine cndP_T (stS_HObj_purple hkl (apW_p rfl (by omega) ?_))
      have := hR _ (n2 hc hp) (by simp only; exact mu1)
      simp only at this
      rw [← tI_snoc] at this
      exact this
    | true =>
      refine cndP_F (ldc_tRs (v := I c) (i := k) hkl (by decide) rfl (prP_leq (cndP_no (by omega) ?_)))
      have := hR _ (n1 hc hp) (by simp only; exact mu1)
      simp only [hp] at this
      exact this
  · refine gP_nt hc (pk_n hc rfl (cndP_F (ldc_tRs (v := I c) (i := k) hkl (by decide) rfl (prP_leq (cndP_yes (by omega) (apW_p rfl (by omega) (ldl_tRs (i := k) hkl (by decide) rfl ?_)))))))
    rw [sbS_HObj_field hkl, cnt_tI]
    have hfl : o.field.length = 3 := hobf.len
    rw [hfl]
    refine loopP_wf (α := Nat × List Int × Nat) (fun q => [iv (q.2.1.length - q.2.2), iv q.2.2, I id, iv (k * 8), iv (k * 8 + 6), iv 3, iv q.1]) (fun q => [tI (freed ++ [id]), tI q.2.1, tR tO (os.set k { o with count := c }), tI bf]) (fun q => 3 - q.1) (fun q => q.1 ≤ 3 ∧ q.2.2 ≤ q.2.1.length ∧ q.2.1.drop q.2.2 = row.drop (off + 1) ++ (o.field.take q.1).filter fun x => decide (0 ≤ x)) (0, row, off + 1) ?_ ?_ ⟨by omega, hlt', by simp⟩ (fun R2 q hq2 hR2 => ?_)
    · rfl
    · simp only [tI_snoc]
    obtain ⟨i, rw', of'⟩ := q
    obtain ⟨hi3, hof', hdr⟩ := hq2
    simp only at hi3 hof' hdr
    have hrl : rw'.length - of' ≤ row.length - (off + 1) + 3 := by
      have e := congrArg List.length hdr
      have := List.length_filter_le (fun x => decide (0 ≤ x)) (o.field.take i)
      simp only [List.length_drop, List.length_append, List.length_take] at e this
      omega
    simp only [cnt_tO, cnt_tW, cnt_tP, cnt_tA, cnt_tN, cnt_tI, cnt_tS, cnt1_1, cnt1_0, cnt2_1, cnt3_1, cnt5_1, cnt6_1, cnt8_1, nx_0, nx_1, nx_2, nx_3, nx_4, nx_5, nx_6, nxc_0, nxc_1, nxc_2, nxc_3, nxc_4, nxc_5]
    simp only [natOf_iv]
    refine prP_lss (cndP_d (fun hlt => ?_) fun hge => ?_)
    · have hlt : i < o.field.length := by omega
      have hfx := hobf.fld _ (gI_mem hlt)
      refine joinP_k ?_
      simp only [sub_f hkl, cnt_tI, sub2_pl1]
      have ed : (rw'.drop of').take (rw'.length - of') = rw'.drop of' := by rw [← List.length_drop, List.take_length]
      rw [ed]
      have ea : tI (rw'.drop of') ++ [T.c (I (gI o.field i))] = tI (rw'.drop of' ++ [gI o.field i]) := tI_snoc _ _
      refine ixW_iv hlt (ldc_f hkl hlt ?_)
      simp only [natOf_iv]
      refine prP_geq (cndP_d (fun hp => ?_) fun hp => ?_)
      · refine apW_p rfl (by omega) ?_
        have := hR2 (i + 1, rw'.drop of' ++ [gI o.field i], 0) ⟨by simp only; omega, by simp only; omega, by simp only [List.drop_zero]; rw [hdr, List.take_succ_eq_append_getElem hlt, List.filter_append, ← List.append_assoc, gI_eq hlt]; congr 1; simp [hp]⟩ (by simp only; omega)
        refine prP_inc (by omega) ?_
        rw [ea]
        simp only [cnt_tO, cnt_tW, cnt_tP, cnt_tA, cnt_tN, cnt_tI, cnt_tS, cnt1_1, cnt1_0, cnt2_1, cnt3_1, cnt5_1, cnt6_1, cnt8_1, nx_0, nx_1, nx_2, nx_3, nx_4, nx_5, nx_6, nxc_0, nxc_1, nxc_2, nxc_3, nxc_4, nxc_5]
        simp only [natOf_iv]
        exact this
      · have := hR2 (i + 1, rw', of') ⟨by simp only; omega, hof', by simp only; rw [hdr, List.take_succ_eq_append_getElem hlt, List.filter_append, ← List.append_assoc, gI_eq hlt]; simp; omega⟩ (by simp only; omega)
        refine prP_inc (by omega) ?_
        simp only [cnt_tO, cnt_tW, cnt_tP, cnt_tA, cnt_tN, cnt_tI, cnt_tS, cnt1_1, cnt1_0, cnt2_1, cnt3_1, cnt5_1, cnt6_1, cnt8_1, nx_0, nx_1, nx_2, nx_3, nx_4, nx_5, nx_6, nxc_0, nxc_1, nxc_2, nxc_3, nxc_4, nxc_5]
        simp only [natOf_iv]
        exact this
    · have : i = o.field.length := by omega
      subst this
      rw [List.take_length] at hdr
      refine impl_without_c (by omega) (ldc_g hkl (impl_free_c (stg_f hkl (z := freeO o.gen) rfl ?_)))
      exact hR _ (n3 hc _ _ hdr hof') (by simp only; rw [hdr]; simp only [mu, List.length_append, List.length_singleton] at mu1 ⊢; have := List.length_filter_le (fun x => decide (0 ≤ x)) o.field; omega)
end Go.Proofs.Ytnhicpkhkaihoaa.P
