/- A part of the proof. -/
import Derived.Test.YtnhicpkhkaihoaaCgHpG
/- Right heaps, as the other text asks. -/
namespace Go.Proofs.Ytnhicpkhkaihoaa.P
open Go Go.Proofs.Ytnhicpkhkaihoaa Go.Proofs.Ytnhicpkhkaihoaa.Eng
set_option maxHeartbeats 4000000
set_option linter.unusedVariables false
set_option linter.unusedSimpArgs false
attribute [local irreducible] prP gP gE gF cndP ixW ldc ldg ldl stc stg scW mkW apW loopP cl2 joinP pre2 selW
variable {w0 : World}
theorem nx_7 (a b c d e f g h : Value) (l : List Value) : nx (a :: b :: c :: d :: e :: f :: g :: h :: l) 7 = h := rfl
theorem nx_8 (a b c d e f g h i : Value) (l : List Value) : nx (a :: b :: c :: d :: e :: f :: g :: h :: i :: l) 8 = i := rfl
theorem nx_9 (a b c d e f g h i j : Value) (l : List Value) : nx (a :: b :: c :: d :: e :: f :: g :: h :: i :: j :: l) 9 = j := rfl
theorem tvW_0 (o : Wk) : tv (nxT (tW o) 0) = .bool o.used := rfl
theorem tvW_1 (o : Wk) : tv (nxT (tW o) 1) = I o.target := rfl
theorem tvO_0 (o : HObj) : tv (nxT (tO o) 0) = .bool o.live := rfl
theorem tvO_1 (o : HObj) : tv (nxT (tO o) 1) = I o.gen := rfl
theorem tvO_2 (o : HObj) : tv (nxT (tO o) 2) = I o.site := rfl
theorem tvO_3 (o : HObj) : tv (nxT (tO o) 3) = I o.holds := rfl
theorem tvO_4 (o : HObj) : tv (nxT (tO o) 4) = I o.roots := rfl
theorem tvO_5 (o : HObj) : tv (nxT (tO o) 5) = I o.count := rfl
theorem tvO_7 (o : HObj) : tv (nxT (tO o) 7) = .bool o.purple := rfl
theorem spec_HeapOk_c {h : Hp} {K : J2} (hf : Fits h) (hn : Nums h) (h1 : HeapOk h → K [.bool true] []) (h2 : ¬ HeapOk h → K [.bool false] []) : cl2 ⟨Try.prog, w0⟩ 135 spec_HeapOk.sg [] (trees h) K := by
  have g1 := hf.ol; have g2 := hf.wl; have g3 := hf.sl; have g4 := hf.bl
  refine spec_HeapOk.cl2 ?_
  unfold spec_HeapOk.txt
  simp only [cnt_tO, cnt_tW, cnt_tP, cnt_tA, cnt_tN, cnt_tI, cnt_tS, cnt1_1, cnt1_0, cnt2_1, cnt3_1, cnt5_1, cnt6_1, cnt8_1, nx_0, nx_1, nx_2, nx_3, nx_4, nx_5, nx_6, nxc_0, nxc_1, nxc_2, nxc_3, nxc_4, nxc_5]
  refine prP_ned (gE_x (gE_x (gE_x (gP_df (fun ho => ?_) fun ho => ?_))))
  rotate_left
  · refine pk_y ho rfl (gE_x (gE_x (gE_x (gP_TF (pk_T rfl (cndP_T (h2 fun hk => ho (by have := hk.ol; omega))))))))
  refine prP_ned (pk_n ho rfl (gE_x (gE_x (gE_x (gP_df (fun hw => ?_) fun hw => ?_)))))
  rotate_left
  · exact pk_y hw rfl (cndP_T (h2 fun hk => hw (by have := hk.wl; omega)))
  refine prP_gtr (pk_n hw rfl (cndP_d (fun h6 => h2 fun hk => (by have := hk.sites.len; omega)) fun h6 => ?_))
  have o8 : h.objs.length = 8 := by omega
  have w8 : h.weaks.length = 8 := by omega
  refine loopP_from (fun i => [iv i]) (fun _ => []) h.objs.length (fun i => ∀ k, k < i → ObjOk h k) rfl rfl (fun k hk => by omega) (fun R i hi hP hR => ?_)
  simp only [cnt_tO, cnt_tW, cnt_tP, cnt_tA, cnt_tN, cnt_tI, cnt_tS, cnt1_1, cnt1_0, cnt2_1, cnt3_1, cnt5_1, cnt6_1, cnt8_1, nx_0, nx_1, nx_2, nx_3, nx_4, nx_5, nx_6, nxc_0, nxc_1, nxc_2, nxc_3, nxc_4, nxc_5]
  refine prP_lss (cndP_d (fun hlt => ?_) fun hge => ?_)
  · have hi : i < h.objs.length := by omega
    refine joinP_k ?_
    have stepR : ObjOk h i → R [iv (i + 1)] [] := fun hk => hR hi fun k hki => (Nat.lt_succ_iff_lt_or_eq.1 hki).elim (hP k) fun he => he ▸ hk
    have no : ¬ ObjOk h i → K [.bool false] [] := fun hk => h2 fun hh => hk (hh.obj i (by omega))
    clear hR h1 h2
    have hfo := ob_len hf.of i
    have hnum := hn.ob i
    obtain ⟨⟨n1, n2⟩, ⟨n3, n4⟩, ⟨n7, n8⟩, ⟨n9, n10⟩, ⟨n5, n6⟩, _⟩ := hnum
    have hib := inE_bd hf.ol hf.of i
    refine ixW_iv hi (ldg_ob hi ?_)
    rw [sub_ob hi, cnt_tI]
    refine spec_l1In_d (prP_notd (gE_x (gE_x (gE_x (gP_df (fun hg => ?_) fun hg => ?_)))))
    rotate_left
    · exact pk_y hg rfl (cndP_T (no fun hk => hg hk.gen))
    refine prP_ned (pk_n hg rfl (cndP_d (fun h3 => no fun hk => by have := hk.len; omega) fun h3 => ?_))
    have hl3 : (ob h.objs i).field.length = 3 := by omega
    have hg : 0 ≤ (ob h.objs i).gen ∧ (ob h.objs i).gen ≤ 999 := Decidable.not_not.1 hg
    simp only [tvO_0, tvO_1, tvO_2, tvO_3, tvO_4, tvO_5, tvO_7]
    cases hv : (ob h.objs i).live with
    | false =>
      have dd : ObjOk h i → (ob h.objs i).site = 0 ∧ (ob h.objs i).holds = 0 ∧ (ob h.objs i).roots = 0 ∧ (ob h.objs i).count = 0 ∧ (ob h.objs i).purple = false := fun hk => hk.dead hv
      refine prP_not (cndP_T ?_)
      cases hpu : (ob h.objs i).purple
      · repeat' (first | refine gE_x ?_ | refine gP_TF ?_ | refine pk_y (by first | with_reducible assumption | omega) rfl ?_ | refine pk_n (by first | with_reducible assumption | omega) rfl ?_ | refine pk_T rfl ?_ | refine cndP_T ?_ | refine cndP_F ?_ | refine prP_ned ?_ | refine pk_sd rfl rfl (fun _ => ?_) (fun _ => ?_) | refine gP_df (fun _ => ?_) (fun _ => ?_) | simp only [cnt_tO, cnt_tW, cnt_tP, cnt_tA, cnt_tN, cnt_tI, cnt_tS, cnt1_1, cnt1_0, cnt2_1, cnt3_1, cnt5_1, cnt6_1, cnt8_1, nx_0, nx_1, nx_2, nx_3, nx_4, nx_5, nx_6, nxc_0, nxc_1, nxc_2, nxc_3, nxc_4, nxc_5])
        all_goals try exact no fun hk => by have := dd hk; omega
        have mk : (∀ j, j < 3 → gI (ob h.objs i).field j = -1) → ObjOk h i := fun ha => ⟨hg, hl3, fun j hj hne => absurd (ha j hj) hne, fun _ => ⟨by omega, by omega, by omega, by omega, hpu⟩, fun hh => by rw [hv] at hh; cases hh⟩
        refine loopP_from (fun j => [iv i, iv j, .bool false, I (ob h.objs i).gen, I (ob h.objs i).site, I (ob h.objs i).holds, I (ob h.objs i).roots, I (ob h.objs i).count, iv (natOf (iv i) * 8 + 6), .bool false]) (fun _ => []) 3 (fun j => ∀ k, k < j → gI (ob h.objs i).field k = -1) rfl rfl (fun k hk => by omega) (fun R2 j hj hP2 hR2 => ?_)
        simp only [cnt_tO, cnt_tW, cnt_tP, cnt_tA, cnt_tN, cnt_tI, cnt_tS, cnt1_1, cnt1_0, cnt2_1, cnt3_1, cnt5_1, cnt6_1, cnt8_1, nx_0, nx_1, nx_2, nx_3, nx_4, nx_5, nx_6, nxc_0, nxc_1, nxc_2, nxc_3, nxc_4, nxc_5]
        simp only [nx_6, nx_7, nx_8, nx_9]
        rw [natOf_iv (natOf (iv i) * 8 + 6), sub_ob hi, cnt_tI, hl3]
        refine prP_lss (cndP_d (fun hlt => ?_) fun hge => ?_)
        · have hlt : j < 3 := by omega
          refine ixW_iv hlt (ldf_ob hi (by omega) (prP_ned (cndP_d (fun hne => ?_) fun hne => ?_)))
          · exact no fun hk => by have := (hk.lead j hlt hne).1; rw [hv] at this; cases this
          · refine prP_inc (by omega) (hR2 hlt fun k hk => ?_)
            rcases Nat.lt_succ_iff_lt_or_eq.1 hk with h4 | rfl
            · exact hP2 k h4
            · omega
        · have hj3 : j = 3 := by omega
          subst hj3
          exact prP_inc (by omega) (stepR (mk hP2))
      · repeat' (first | refine gE_x ?_ | refine gP_TF ?_ | refine pk_y (by first | with_reducible assumption | omega) rfl ?_ | refine pk_n (by first | with_reducible assumption | omega) rfl ?_ | refine pk_T rfl ?_ | refine cndP_T ?_ | refine prP_ned ?_ | refine pk_sd rfl rfl (fun _ => ?_) (fun _ => ?_) | refine gP_df (fun _ => ?_) (fun _ => ?_))
        all_goals exact no fun hk => by have := (dd hk).2.2.2.2; rw [hpu] at this; cases this
    | true =>
      have ll := fun hk : ObjOk h i => hk.lv hv
      refine prP_not (cndP_F ?_)
      by_cases hz : 1 ≤ (ob h.objs i).gen ∧ (0 ≤ (ob h.objs i).site ∧ (ob h.objs i).site ≤ (h.sites.length : Int) - 1) ∧ (0 ≤ (ob h.objs i).holds ∧ (ob h.objs i).holds ≤ 20) ∧ (0 ≤ (ob h.objs i).roots ∧ (ob h.objs i).roots ≤ 20)
      · obtain ⟨z1, z2, z3, z4⟩ := hz
        repeat' (first | refine spec_l1In_d ?_ | refine gE_x ?_ | refine gP_nf (by first | with_reducible assumption | omega) ?_ | refine pk_n (by first | with_reducible assumption | omega) rfl ?_ | refine cndP_no (by first | with_reducible assumption | omega) ?_ | refine prP_lss ?_ | refine prP_notd ?_ | refine prP_sub ⟨by omega, by omega⟩ ?_ | simp only [cnt_tO, cnt_tW, cnt_tP, cnt_tA, cnt_tN, cnt_tI, cnt_tS, cnt1_1, cnt1_0, cnt2_1, cnt3_1, cnt5_1, cnt6_1, cnt8_1, nx_0, nx_1, nx_2, nx_3, nx_4, nx_5, nx_6, nxc_0, nxc_1, nxc_2, nxc_3, nxc_4, nxc_5])
        all_goals try (exfalso; omega)
        refine loopP_from (fun j => [iv i, iv j, .bool true, I (ob h.objs i).gen, I (ob h.objs i).site, I (ob h.objs i).holds, I (ob h.objs i).roots, I (ob h.objs i).count, iv (natOf (iv i) * 8 + 6), .bool (ob h.objs i).purple]) (fun _ => []) 3 (fun j => ∀ k, k < j → gI (ob h.objs i).field k ≠ -1 → (ob h.objs i).live = true ∧ 0 ≤ slotOf h.objs (gI (ob h.objs i).field k)) rfl rfl (fun k hk => by omega) (fun R2 j hj hP2 hR2 => ?_)
        simp only [cnt_tO, cnt_tW, cnt_tP, cnt_tA, cnt_tN, cnt_tI, cnt_tS, cnt1_1, cnt1_0, cnt2_1, cnt3_1, cnt5_1, cnt6_1, cnt8_1, nx_0, nx_1, nx_2, nx_3, nx_4, nx_5, nx_6, nxc_0, nxc_1, nxc_2, nxc_3, nxc_4, nxc_5]
        simp only [nx_6, nx_7, nx_8, nx_9]
        rw [natOf_iv (natOf (iv i) * 8 + 6), sub_ob hi, cnt_tI, hl3]
        refine prP_lss (cndP_d (fun hlt => ?_) fun hge => ?_)
        · have hlt : j < 3 := by omega
          refine ixW_iv hlt (ldf_ob hi (by omega) ?_)
          repeat' (first | refine spec_SlotOf_c (hn.fld i j) (by omega) ?_ | refine gE_x ?_ | refine gP_yt (by first | with_reducible assumption | omega) ?_ | refine gP_nt (by first | with_reducible assumption | omega) ?_ | refine pk_y (by first | with_reducible assumption | omega) rfl ?_ | refine pk_n (by first | with_reducible assumption | omega) rfl ?_ | refine cndP_F ?_ | refine prP_lss ?_ | refine prP_ned ?_ | refine prP_inc (by omega) ?_ | refine ixW_iv (by omega) ?_ | refine ldf_ob (by omega) (by omega) ?_ | refine cndP_d (fun _ => ?_) (fun _ => ?_) | refine gP_dt (fun _ => ?_) (fun _ => ?_))
          all_goals first
            | (refine hR2 hlt fun k hk hne => ?_
               rcases Nat.lt_succ_iff_lt_or_eq.1 hk with h4 | rfl
               · exact hP2 k h4 hne
               · first
                 | exact absurd hne (by assumption)
                 | exact ⟨hv, by omega⟩)
            | (refine no fun hk => ?_
               have h4 := hk.lead j hlt (by assumption)
               omega)
        · have hj3 : j = 3 := by omega
          subst hj3
          have fin : (ob h.objs i).count = (ob h.objs i).holds + (ob h.objs i).roots + inE h.objs i → 1 ≤ (ob h.objs i).count → (ob h.objs i).purple = decide (idOf i (ob h.objs i).gen ∈ h.buffer) → ObjOk h i := fun e f hp => ⟨hg, hl3, hP2, fun hh => (by rw [hv] at hh; cases hh), fun _ => ⟨z1, z2, z3, z4, e, f, hp⟩⟩
          refine prP_add ⟨by omega, by omega⟩ (spec_InEdges_c ⟨by omega, by omega⟩ (by omega) hf.of (prP_add ⟨by omega, by omega⟩ ?_))
          repeat' (first | refine spec_IdOf_c ?_ | refine spec_l5Has_c (by omega) ?_ | refine gE_x ?_ | refine gP_TF ?_ | refine gP_yf (by first | with_reducible assumption | omega) ?_ | refine gP_nf (by first | with_reducible assumption | omega) ?_ | refine pk_y (by first | with_reducible assumption | omega) rfl ?_ | refine pk_n (by first | with_reducible assumption | omega) rfl ?_ | refine pk_T rfl ?_ | refine cndP_T ?_ | refine prP_lss ?_ | refine prP_ned ?_ | refine prP_notd ?_ | refine prP_inc (by omega) ?_ | refine cndP_d (fun _ => ?_) (fun _ => ?_) | refine gP_df (fun _ => ?_) (fun _ => ?_))
          all_goals first
            | (refine no fun hk => ?_
               have h4 := ll hk
               omega)
            | exact stepR (fin (by omega) (by omega) (Decidable.not_not.1 (by assumption)))
            | exact no fun hk => absurd (ll hk).2.2.2.2.2.2 (by assumption)
      · repeat' (first | refine spec_l1In_d ?_ | refine gE_x ?_ | refine gP_TF ?_ | refine gP_yf (by first | with_reducible assumption | omega) ?_ | refine gP_nf (by first | with_reducible assumption | omega) ?_ | refine pk_y (by first | with_reducible assumption | omega) rfl ?_ | refine pk_n (by first | with_reducible assumption | omega) rfl ?_ | refine pk_T rfl ?_ | refine cndP_T ?_ | refine cndP_yes (by first | with_reducible assumption | omega) ?_ | refine prP_lss ?_ | refine prP_notd ?_ | refine prP_sub ⟨by omega, by omega⟩ ?_ | refine gP_df (fun _ => ?_) (fun _ => ?_))
        all_goals first
          | (refine no fun hk => hz ?_
             have := ll hk
             exact ⟨this.1, this.2.1, this.2.2.1, this.2.2.2.1⟩)
          | (exfalso; omega)
  have hi8 : i = 8 := by omega
  subst hi8
  refine loopP_from (fun i => [iv i]) (fun _ => []) h.weaks.length (fun i => ∀ k, k < i → ((wk h.weaks k).used = false → (wk h.weaks k).target = 0) ∧ ((wk h.weaks k).used = true → 8 ≤ (wk h.weaks k).target ∧ (wk h.weaks k).target ≤ 7999)) rfl rfl (fun k hk => by omega) (fun R2 i hi hP2 hR2 => ?_)
  simp only [cnt_tO, cnt_tW, cnt_tP, cnt_tA, cnt_tN, cnt_tI, cnt_tS, cnt1_1, cnt1_0, cnt2_1, cnt3_1, cnt5_1, cnt6_1, cnt8_1, nx_0, nx_1, nx_2, nx_3, nx_4, nx_5, nx_6, nxc_0, nxc_1, nxc_2, nxc_3, nxc_4, nxc_5]
  refine prP_lss (cndP_d (fun hlt => ?_) fun hge => ?_)
  · have hlt : i < h.weaks.length := by omega
    refine ixW_iv hlt (ldg_wk hlt ?_)
    have stepR := fun hk => hR2 hlt fun k hki => (Nat.lt_succ_iff_lt_or_eq.1 hki).elim (hP2 k) fun he => he ▸ hk
    simp only [tvW_0, tvW_1]
    cases hu : (wk h.weaks i).used with
    | false =>
      refine prP_not ?_
      repeat' (first | refine gE_x ?_ | refine gE_sb ?_ | refine gP_snf (by first | with_reducible assumption | omega) ?_ | refine gP_syf (by first | with_reducible assumption | omega) ?_ | refine gP_TT ?_ | refine gP_FT ?_ | refine gP_yf (by first | with_reducible assumption | omega) ?_ | refine gP_nf (by first | with_reducible assumption | omega) ?_ | refine pk_y (by first | with_reducible assumption | omega) rfl ?_ | refine pk_n (by first | with_reducible assumption | omega) rfl ?_ | refine pk_T rfl ?_ | refine pk_F rfl ?_ | refine cndP_T ?_ | refine cndP_F ?_ | refine prP_ned ?_ | refine prP_inc (by omega) ?_ | refine gP_sdf (fun _ => ?_) (fun _ => ?_))
      all_goals first
        | (refine stepR ⟨fun _ => ?_, fun hh => (by rw [hu] at hh; cases hh)⟩
           first
             | omega
             | (simp_all; done))
        | (refine h2 fun hk => ?_
           have h4 := (hk.weak i (by omega)).1 hu
           first
             | omega
             | (simp_all; done))
    | true =>
      refine prP_not ?_
      repeat' (first | refine spec_l1In_d ?_ | refine gE_x ?_ | refine gE_sb ?_ | refine gP_sFf ?_ | refine gP_TT ?_ | refine gP_FF ?_ | refine gP_FT ?_ | refine pk_T rfl ?_ | refine pk_F rfl ?_ | refine prP_notd ?_ | refine prP_inc (by omega) ?_ | refine cndP_d (fun _ => ?_) (fun _ => ?_))
      all_goals first
        | (refine stepR ⟨fun hh => (by rw [hu] at hh; cases hh), fun _ => ?_⟩
           first
             | omega
             | (simp_all; done))
        | (refine h2 fun hk => ?_
           have h4 := (hk.weak i (by omega)).2 hu
           first
             | omega
             | (simp_all; done))
  have hi8 : i = 8 := by omega
  subst hi8
  refine loopP_from (fun i => [iv i]) (fun _ => []) h.buffer.length (fun i => ∀ k, k < i → 0 ≤ slotOf h.objs (gI h.buffer k) ∧ gI h.buffer k ∉ h.buffer.take k) rfl rfl (fun k hk => by omega) (fun R3 i hi hP3 hR3 => ?_)
  simp only [cnt_tO, cnt_tW, cnt_tP, cnt_tA, cnt_tN, cnt_tI, cnt_tS, cnt1_1, cnt1_0, cnt2_1, cnt3_1, cnt5_1, cnt6_1, cnt8_1, nx_0, nx_1, nx_2, nx_3, nx_4, nx_5, nx_6, nxc_0, nxc_1, nxc_2, nxc_3, nxc_4, nxc_5]
  refine prP_lss (cndP_d (fun hlt => ?_) fun hge => ?_)
  · have hlt : i < h.buffer.length := by omega
    have e : sub2 (tI h.buffer) [] (natOf (fst2 (two (iv 0) (iv i))) * 1) (natOf (snd2 (two (iv 0) (iv i))) * 1) = tI (h.buffer.take i) := by
      have h1 : natOf (fst2 (two (iv 0) (iv i))) = 0 := rfl
      have h2 : natOf (snd2 (two (iv 0) (iv i))) = i := natOf_iv i
      rw [h1, h2]; simp [sub2, node, tI, List.map_take]
    refine ixW_iv hlt (ldI hlt (spec_SlotOf_c (hn.bf i) (by omega) (prP_lss (gE_x (gE_x (gE_x (gP_df (fun hb => ?_) fun hb => ?_)))))))
    · refine scW_to (by omega) (gE_x (gE_x (gE_x (gP_nf hb (ixW_iv hlt (gP_nf hb (ldI hlt (gP_nf hb ?_))))))))
      rw [e]
      refine spec_l5Has_c (by simp; omega) (pk_n hb rfl (cndP_d (fun hm => h2 fun hk => (hk.buf i hlt).2 hm) fun hm => ?_))
      refine prP_inc (by omega) (hR3 hlt fun k hk => ?_)
      rcases Nat.lt_succ_iff_lt_or_eq.1 hk with h3 | rfl
      · exact hP3 k h3
      · exact ⟨by omega, hm⟩
    · repeat' (first | refine gE_x ?_ | refine gP_yf (by first | with_reducible assumption | omega) ?_ | refine pk_y (by first | with_reducible assumption | omega) rfl ?_ | refine cndP_T ?_)
      all_goals exact h2 fun hk => by have := (hk.buf i hlt).1; omega
  have hib : i = h.buffer.length := by omega
  subst hib
  refine loopP_from (fun i => [iv i]) (fun _ => []) h.sites.length (fun i => ∀ k, k < i → (1 ≤ ((gS h.sites k).size : Int) ∧ ((gS h.sites k).size : Int) ≤ 8) ∧ gS h.sites k ∉ h.sites.take k) rfl rfl (fun k hk => by omega) (fun R4 i hi hP4 hR4 => ?_)
  simp only [cnt_tO, cnt_tW, cnt_tP, cnt_tA, cnt_tN, cnt_tI, cnt_tS, cnt1_1, cnt1_0, cnt2_1, cnt3_1, cnt5_1, cnt6_1, cnt8_1, nx_0, nx_1, nx_2, nx_3, nx_4, nx_5, nx_6, nxc_0, nxc_1, nxc_2, nxc_3, nxc_4, nxc_5]
  refine prP_lss (cndP_d (fun hlt => ?_) fun hge => ?_)
  · have hlt : i < h.sites.length := by omega
    refine ixW_iv hlt (ldS hlt (prP_lnS (spec_l1In_d (prP_notd (cndP_d (fun hb => h2 fun hk => hb (hk.sites.sz i hlt)) fun hb => ?_)))))
    refine loopP_from (fun j => [iv i, iv j]) (fun _ => []) i (fun j => gS h.sites i ∉ h.sites.take j) rfl rfl (by simp) (fun R5 j hj hP5 hR5 => ?_)
    simp only [cnt_tO, cnt_tW, cnt_tP, cnt_tA, cnt_tN, cnt_tI, cnt_tS, cnt1_1, cnt1_0, cnt2_1, cnt3_1, cnt5_1, cnt6_1, cnt8_1, nx_0, nx_1, nx_2, nx_3, nx_4, nx_5, nx_6, nxc_0, nxc_1, nxc_2, nxc_3, nxc_4, nxc_5]
    refine prP_lss (cndP_d (fun hlj => ?_) fun hgj => ?_)
    · have hlj : j < i := by omega
      refine ixW_iv (by omega) (ldS (by omega) (ixW_iv hlt (ldS hlt (prP_eqSd (cndP_d (fun he => h2 fun hk => hk.sites.one i hlt ?_) fun he => ?_)))))
      · rw [← he, ← gS_eq (by omega)]
        exact List.mem_take_iff_getElem.2 ⟨j, by omega, rfl⟩
      · exact prP_inc (by omega) (hR5 hlj (nmemS_succ (by omega) hP5 he))
    · have : j = i := by omega
      subst this
      refine prP_inc (by omega) (hR4 hlt fun k hk => ?_)
      rcases Nat.lt_succ_iff_lt_or_eq.1 hk with h3 | rfl
      · exact hP4 k h3
      · exact ⟨Decidable.not_not.1 hb, hP5⟩
  · have : i = h.sites.length := by omega
    subst this
    exact h1 ⟨o8, w8, ⟨by omega, fun i hi => (hP4 i hi).1, fun i hi => (hP4 i hi).2⟩, fun i hi => hP i hi, fun i hi => hP2 i hi, fun i hi => hP3 i hi⟩
end Go.Proofs.Ytnhicpkhkaihoaa.P
/- Gaining, losing: the other text. -/
namespace Go.Proofs.Ytnhicpkhkaihoaa.P
open Go Go.Proofs.Ytnhicpkhkaihoaa Go.Proofs.Ytnhicpkhkaihoaa.Eng
set_option linter.unusedVariables false
set_option maxHeartbeats 4000000
set_option linter.unusedVariables false
set_option linter.unusedSimpArgs false
attribute [local irreducible] prP gP gE gF cndP ixW ldc ldg ldl stc stg scW mkW apW loopP cl2 joinP pre2 selW
variable {w0 : World}
theorem spec_l5None_c {K : J2} (h : K [] [tI none3]) : cl2 ⟨Try.prog, w0⟩ 181 spec_l5None.sg [] [] K := by
  refine spec_l5None.cl2 ?_
  unfold spec_l5None.txt
  refine loopP_from (fun i => [iv i]) (fun i => [tI (List.replicate i (-1))]) 3 (fun _ => True) rfl rfl trivial (fun R i hi hP hR => ?_)
  simp only [cnt_tO, cnt_tW, cnt_tP, cnt_tA, cnt_tN, cnt_tI, cnt_tS, cnt1_1, cnt1_0, cnt2_1, cnt3_1, cnt5_1, cnt6_1, cnt8_1, nx_0, nx_1, nx_2, nx_3, nx_4, nx_5, nx_6, nxc_0, nxc_1, nxc_2, nxc_3, nxc_4, nxc_5]
  refine prP_lss (cndP_d (fun hlt => ?_) fun hge => ?_)
  · have hlt : i < 3 := by omega
    refine apW_p rfl (by simp; omega) (prP_inc (by omega) ?_)
    have := hR hlt trivial
    rw [List.replicate_succ', ← tI_snoc] at this
    exact this
  · have : i = 3 := by omega
    subst this
    exact h
/-- What all heaps on the way are. -/
structure St (h : Hp) : Prop where
  ol : h.objs.length = 8
  wl : h.weaks.length = 8
  sl : h.sites.length ≤ 6
  bl : h.buffer.length ≤ 100
  of : ∀ o ∈ h.objs, OF o
  ss : ∀ s ∈ h.sites, (s.size : Int) ≤ 1048576
  wf : ∀ w ∈ h.weaks, F64 w.target
  bf : ∀ x ∈ h.buffer, F64 x
theorem St.fits {h : Hp} (s : St h) : Fits h := ⟨by have := s.ol; omega, fun o ho => by have := (s.of o ho).len; omega, by have := s.wl; omega, by have := s.bl; omega, by have := s.sl; omega, s.ss⟩
def gainM (os : List HObj) (id : Int) : List HObj := if slotOf os id < 0 then os else os.set (slotOf os id).toNat { ob os (slotOf os id).toNat with count := w64 ((ob os (slotOf os id).toNat).count + 1) }
theorem gainM_len (os : List HObj) (id : Int) : (gainM os id).length = os.length := by unfold gainM; split <;> simp
theorem gainM_of {os : List HObj} {id : Int} (h : ∀ o ∈ os, OF o) : ∀ o ∈ gainM os id, OF o := by
  unfold gainM
  split
  · exact h
  · have hk := slotOf_bd (l := os) (id := id) (by omega)
    have ho := h _ (ob_mem (l := os) (i := (slotOf os id).toNat) (by omega))
    exact of_set h ⟨ho.gen, ho.len, ho.fld⟩
theorem impl_gain_c {os : List HObj} {b c d : List T} {id : Int} {K : J2} (hid : F64 id) (hol : os.length = 8) (h : K [] [tR tO (gainM os id)]) : cl2 ⟨Try.prog, w0⟩ 216 impl_Heap_gain.sg [I id] [tR tO os, b, c, d] K := by
  refine impl_Heap_gain.cl2 ?_
  unfold impl_Heap_gain.txt
  simp only [cnt_tO, cnt_tW, cnt_tP, cnt_tA, cnt_tN, cnt_tI, cnt_tS, cnt1_1, cnt1_0, cnt2_1, cnt3_1, cnt5_1, cnt6_1, cnt8_1, nx_0, nx_1, nx_2, nx_3, nx_4, nx_5, nx_6, nxc_0, nxc_1, nxc_2, nxc_3, nxc_4, nxc_5]
  refine impl_SlotOf_c hid (by omega) ?_
  simp only [cnt_tO, cnt_tW, cnt_tP, cnt_tA, cnt_tN, cnt_tI, cnt_tS, cnt1_1, cnt1_0, cnt2_1, cnt3_1, cnt5_1, cnt6_1, cnt8_1, nx_0, nx_1, nx_2, nx_3, nx_4, nx_5, nx_6, nxc_0, nxc_1, nxc_2, nxc_3, nxc_4, nxc_5]
  unfold gainM at h
  refine prP_geq (cndP_d (fun hs => ?_) fun hs => ?_)
  · have hk := slotOf_bd (l := os) (id := id) (by omega)
    rw [if_neg (by omega)] at h
    obtain ⟨k, hkk⟩ : ∃ k, (slotOf os id).toNat = k := ⟨_, rfl⟩
    have hkI : slotOf os id = (k : Int) := by omega
    rw [hkk] at h
    rw [hkI]
    have hkl : k < os.length := by omega
    rw [tR_ob hkl]
    exact ixW_iv (by omega) (ldc_tRs (i := k) hkl (by decide) rfl (prP_addw (ixW_iv (by omega) (stS_HObj_count hkl h))))
  · rw [if_pos (by omega)] at h; exact h
theorem spec_Gain_c {h : Hp} {id : Int} {K : J2} (st : St h) (hid : F64 id) (hk : K [] (trees { h with objs := gainM h.objs id })) : cl2 ⟨Try.prog, w0⟩ 192 spec_Gain.sg [I id] (trees h) K := by
  refine spec_Gain.cl2 ?_
  unfold spec_Gain.txt
  refine spec_l5Copy_c st.fits ?_
  obtain ⟨os, ws, bf, ss⟩ := h
  have hol : os.length = 8 := st.ol
  simp only [trees] at hk ⊢
  refine spec_SlotOf_c hid (by omega) ?_
  simp only [cnt_tO, cnt_tW, cnt_tP, cnt_tA, cnt_tN, cnt_tI, cnt_tS, cnt1_1, cnt1_0, cnt2_1, cnt3_1, cnt5_1, cnt6_1, cnt8_1, nx_0, nx_1, nx_2, nx_3, nx_4, nx_5, nx_6, nxc_0, nxc_1, nxc_2, nxc_3, nxc_4, nxc_5]
  unfold gainM at hk
  refine joinP_k (prP_geq (cndP_d (fun hs => ?_) fun hs => ?_))
  · have hkk := slotOf_bd (l := os) (id := id) (by omega)
    rw [if_neg (by omega)] at hk
    obtain ⟨k, hkk⟩ : ∃ k, (slotOf os id).toNat = k := ⟨_, rfl⟩
    have hkI : slotOf os id = (k : Int) := by omega
    rw [hkk] at hk
    rw [hkI]
    have hkl : k < os.length := by omega
    rw [tR_ob hkl]
    exact ixW_iv (by omega) (ldc_tRs (i := k) hkl (by decide) rfl (prP_addw (ixW_iv (by omega) (stS_HObj_count hkl hk))))
  · rw [if_pos (by omega)] at hk; exact hk
theorem spec_Lose_c {h : Hp} {ids : List Int} {K : J2} (st : St h) (hi : ids.length ≤ 100) (hid : ∀ x ∈ ids, F64 x) (hK : K [] [tR tO (loseM h.objs h.buffer ids).1, tR tW h.weaks, tI (loseM h.objs h.buffer ids).2.1, tS h.sites, tI (loseM h.objs h.buffer ids).2.2]) : cl2 ⟨Try.prog, w0⟩ 193 spec_Lose.sg [] [tR tO h.objs, tR tW h.weaks, tI h.buffer, tS h.sites, tI ids] K := by
  refine spec_Lose.cl2 ?_
  unfold spec_Lose.txt
  refine spec_l5Copy_c st.fits ?_
  obtain ⟨os, ws, buf, ss⟩ := h
  have hol : os.length = 8 := st.ol
  have hof : ∀ o ∈ os, OF o := st.of
  have hb : buf.length ≤ 100 := st.bl
  simp only [trees] at hK ⊢
  rw [List.nil_append]
  simp only [cnt_tO, cnt_tW, cnt_tP, cnt_tA, cnt_tN, cnt_tI, cnt_tS, cnt1_1, cnt1_0, cnt2_1, cnt3_1, cnt5_1, cnt6_1, cnt8_1, nx_0, nx_1, nx_2, nx_3, nx_4, nx_5, nx_6, nxc_0, nxc_1, nxc_2, nxc_3, nxc_4, nxc_5]
  refine apW_p (flat_tI _) (by first | omega | (simp only [cnt, List.length_nil]; omega)) ?_
  obtain ⟨R, hR0⟩ : ∃ R, loseM os buf ids = R := ⟨_, rfl⟩
  have st := LsI.start (buf := buf) hol hof hid
  rw [hR0] at st hK
  refine loopP_wf (α := List HObj × List Int × List Int × List Int × Nat) (fun q => [iv (q.2.2.2.1.length - q.2.2.2.2), iv q.2.2.2.2]) (fun q => [tI q.2.2.1, tI q.2.2.2.1, tR tO q.1, tR tW ws, tI q.2.1, tS ss]) (fun q => mu q.2.2.1 (q.2.2.2.1.drop q.2.2.2.2)) (LsI R (buf.length + ids.length + 36)) (os, buf, [], ids, 0) rfl rfl st (fun Rr q hq hR => ?_)
  obtain ⟨os, bf, freed, row, off⟩ := q
  have hq' : LsI R (buf.length + ids.length + 36) (os, bf, freed, row, off) := hq
  obtain ⟨ol, of, fr, ofl, td, sz, _⟩ := id hq'
  simp only at ol of fr ofl td sz
  have hmz : mu freed (row.drop off) = (row.length - off) + 4 * (9 - freed.length) := by simp [mu]
  simp only [cnt_tO, cnt_tW, cnt_tP, cnt_tA, cnt_tN, cnt_tI, cnt_tS, cnt1_1, cnt1_0, cnt2_1, cnt3_1, cnt5_1, cnt6_1, cnt8_1, nx_0, nx_1, nx_2, nx_3, nx_4, nx_5, nx_6, nxc_0, nxc_1, nxc_2, nxc_3, nxc_4, nxc_5]
  simp only [natOf_iv]
  refine prP_gtr (gE_x (gE_x (gP_dt (fun hlt => ?_) fun hge => ?_)))
  rotate_left
  · refine pk_n hge rfl (cndP_F ?_)
    have := hq'.stop (.inl (by
      have : ¬ (((row.length - off : Nat) : Int) > 0) := hge
      omega))
    rw [this] at hK; exact hK
  have hlt' : off < row.length := by
    have : ((row.length - off : Nat) : Int) > 0 := hlt
    omega
  refine prP_leq (pk_y hlt rfl (cndP_d (fun h8 => ?_) fun h8 => ?_))
  rotate_left
  · have := hq'.stop (.inr (by omega))
    rw [this] at hK; exact hK
  have h8' : freed.length ≤ 8 := by omega
  obtain ⟨hidf, _⟩ := hq'.step hlt' h8'
  refine ixW_iv (j := 0) (by omega) (ldc_pl hlt' (scW_1 (by omega) (spec_SlotOf_c hidf (by omega) ?_)))
  have e1 : off + natOf (iv 1) * 1 = off + 1 := by rw [natOf_iv]
  have e2 : row.length - off - 1 = row.length - (off + 1) := by omega
  simp only [natOf_iv, e2, Nat.mul_one, nx_0]
  have mu1 : mu freed (row.drop (off + 1)) < mu freed (row.drop off) := by rw [drop_cons hlt', mu_cons]; omega
  refine prP_lss (cndP_d (fun hs => hR (os, bf, freed, row, off + 1) (hq'.skip hlt' h8' hs) mu1) fun hs => ?_)
  have hs' : 0 ≤ slotOf os (gI row off) := by omega
  have hk := slotOf_bd hs'
  have n1 := hq'.keep hlt' h8' hs'
  have n2 := hq'.put hlt' h8' hs'
  have n3 := fun hc row' off' => hq'.free hlt' h8' hs' hc (row' := row') (off' := off')
  have hobf := of _ (ob_mem (l := os) (i := (slotOf os (gI row off)).toNat) (by omega))
  generalize hgid : gI row off = id at *
  obtain ⟨k, hkk⟩ : ∃ k, (slotOf os id).toNat = k := ⟨_, rfl⟩
  have hkI : slotOf os id = (k : Int) := by omega
  rw [hkk] at hk n1 n2 n3 hobf
  rw [hkI]
  have hkl : k < os.length := by omega
  rw [tR_ob hkl]
  generalize ho : ob os k = o at *
  refine ixW_iv (by omega) (ldc_tRs (i := k) hkl (by decide) rfl (prP_subw (ixW_iv (by omega) (stS_HObj_count hkl ?_))))
  generalize hcc : w64 (o.count - 1) = c at *
  simp only [cnt_tO, cnt_tW, cnt_tP, cnt_tA, cnt_tN, cnt_tI, cnt_tS, cnt1_1, cnt1_0, cnt2_1, cnt3_1, cnt5_1, cnt6_1, cnt8_1, nx_0, nx_1, nx_2, nx_3, nx_4, nx_5, nx_6, nxc_0, nxc_1, nxc_2, nxc_3, nxc_4, nxc_5]
  have hl8 : (os.set k { o with count := c }).length = os.length := List.length_set
  simp only [List.length_set]
  refine ixW_iv (by omega) (ldc_tRs (v := I c) (i := k) hkl (by decide) rfl ?_)
  refine prP_gtr (cndP_d (fun hc => ?_) fun hc => ?_)
  · refine joinP_k (ixW_iv (by omega) (ldc_tRs (v := .bool o.purple) (i := k) hkl (by decide) rfl (prP_not ?_)))
    cases hp : o.purple with
    | false =>
      refine cndP_T (ixW_iv (by omega) (stS_HObj_purple hkl (apW_p rfl (by omega) ?_)))
      have := hR _ (n2 hc hp) (by simp only; exact mu1)
      simp only at this
      rw [← tI_snoc] at this
      simp only [cnt_tO, cnt_tW, cnt_tP, cnt_tA, cnt_tN, cnt_tI, cnt_tS, cnt1_1, cnt1_0, cnt2_1, cnt3_1, cnt5_1, cnt6_1, cnt8_1, nx_0, nx_1, nx_2, nx_3, nx_4, nx_5, nx_6, nxc_0, nxc_1, nxc_2, nxc_3, nxc_4, nxc_5]
      simp only [natOf_iv]
      exact this
    | true =>
      have := hR _ (n1 hc hp) (by simp only; exact mu1)
      simp only [hp] at this
      refine cndP_F ?_
      simp only [cnt_tO, cnt_tW, cnt_tP, cnt_tA, cnt_tN, cnt_tI, cnt_tS, cnt1_1, cnt1_0, cnt2_1, cnt3_1, cnt5_1, cnt6_1, cnt8_1, nx_0, nx_1, nx_2, nx_3, nx_4, nx_5, nx_6, nxc_0, nxc_1, nxc_2, nxc_3, nxc_4, nxc_5]
      simp only [natOf_iv]
      exact this
  · refine apW_p rfl (by omega) ?_
    have hfl : o.field.length = 3 := hobf.len
    refine loopP_wf (α := Nat × List Int × Nat) (fun q => [iv (q.2.1.length - q.2.2), iv q.2.2, I id, iv k, iv q.1]) (fun q => [tI (freed ++ [id]), tI q.2.1, tR tO (os.set k { o with count := c }), tR tW ws, tI bf, tS ss]) (fun q => 3 - q.1) (fun q => q.1 ≤ 3 ∧ q.2.2 ≤ q.2.1.length ∧ q.2.1.drop q.2.2 = row.drop (off + 1) ++ (o.field.take q.1).filter fun x => decide (0 ≤ x)) (0, row, off + 1) rfl ?_ ⟨by omega, hlt', by simp⟩ (fun R2 q hq2 hR2 => ?_)
    · simp only [tI_snoc]
    obtain ⟨i, rw', of'⟩ := q
    obtain ⟨hi3, hof', hdr⟩ := hq2
    simp only at hi3 hof' hdr
    have hrl : rw'.length - of' ≤ row.length - (off + 1) + 3 := by
      have e := congrArg List.length hdr
      have := List.length_filter_le (fun x => decide (0 ≤ x)) (o.field.take i)
      simp only [List.length_drop, List.length_append, List.length_take] at e this
      omega
    simp only [cnt_tO, cnt_tW, cnt_tP, cnt_tA, cnt_tN, cnt_tI, cnt_tS, cnt1_1, cnt1_0, cnt2_1, cnt3_1, cnt5_1, cnt6_1, cnt8_1, nx_0, nx_1, nx_2, nx_3, nx_4, nx_5, nx_6, nxc_0, nxc_1, nxc_2, nxc_3, nxc_4, nxc_5]
    simp only [List.length_set]
    refine ixW_iv (by omega) (ldl_tRs (i := k) hkl (by decide) rfl ?_)
    simp only [natOf_iv, sub_f hkl, cnt_tI]
    refine prP_lss (cndP_d (fun hlt => ?_) fun hge => ?_)
    · have hlt : i < o.field.length := by omega
      have hfx := hobf.fld _ (gI_mem hlt)
      refine joinP_k (ixW_iv (by omega) (ldl_tRs (i := k) hkl (by decide) rfl ?_))
      have ed : (rw'.drop of').take (rw'.length - of') = rw'.drop of' := by rw [← List.length_drop, List.take_length]
      have ea : tI (rw'.drop of') ++ [T.c (I (gI o.field i))] = tI (rw'.drop of' ++ [gI o.field i]) := tI_snoc _ _
      simp only [natOf_iv, sub_f hkl, cnt_tI, sub2_pl1, Nat.mul_one, ed]
      refine ixW_iv hlt (ldc_f hkl hlt ?_)
      simp only [natOf_iv]
      refine prP_geq (cndP_d (fun hp => ?_) fun hp => ?_)
      · refine ixW_iv (by omega) (ldl_tRs (i := k) hkl (by decide) rfl ?_)
        simp only [natOf_iv, sub_f hkl, cnt_tI]
        refine ixW_iv hlt (ldc_f hkl hlt ?_)
        simp only [natOf_iv]
        refine apW_p rfl (by omega) ?_
        have := hR2 (i + 1, rw'.drop of' ++ [gI o.field i], 0) ⟨by simp only; omega, by simp only; omega, by simp only [List.drop_zero]; rw [hdr, List.take_succ_eq_append_getElem hlt, List.filter_append, ← List.append_assoc, gI_eq hlt]; congr 1; simp [hp]⟩ (by simp only; omega)
        refine prP_inc (by omega) ?_
        rw [ea]
        simp only [cnt_tO, cnt_tW, cnt_tP, cnt_tA, cnt_tN, cnt_tI, cnt_tS, cnt1_1, cnt1_0, cnt2_1, cnt3_1, cnt5_1, cnt6_1, cnt8_1, nx_0, nx_1, nx_2, nx_3, nx_4, nx_5, nx_6, nxc_0, nxc_1, nxc_2, nxc_3, nxc_4, nxc_5]
        simp only [natOf_iv]
        exact this
      · have := hR2 (i + 1, rw', of') ⟨by simp only; omega, hof', by simp only; rw [hdr, List.take_succ_eq_append_getElem hlt, List.filter_append, ← List.append_assoc, gI_eq hlt]; simp; omega⟩ (by simp only; omega)
        refine prP_inc (by omega) ?_
        simp only [cnt_tO, cnt_tW, cnt_tP, cnt_tA, cnt_tN, cnt_tI, cnt_tS, cnt1_1, cnt1_0, cnt2_1, cnt3_1, cnt5_1, cnt6_1, cnt8_1, nx_0, nx_1, nx_2, nx_3, nx_4, nx_5, nx_6, nxc_0, nxc_1, nxc_2, nxc_3, nxc_4, nxc_5]
        simp only [natOf_iv]
        exact this
    · have : i = o.field.length := by omega
      subst this
      rw [List.take_length] at hdr
      refine spec_l6Without_c (by omega) ?_
      try simp only [cnt_tO, List.length_set]
      refine ixW_iv (by omega) ?_
      simp only [natOf_iv]
      refine ldc_g hkl (spec_l5None_c ?_)
      refine ixW_iv (by omega) ?_
      simp only [natOf_iv]
      refine stg_f hkl (z := freeO o.gen) rfl ?_
      exact hR _ (n3 hc _ _ hdr hof') (by simp only; rw [hdr]; simp only [mu, List.length_append, List.length_singleton] at mu1 ⊢; have := List.length_filter_le (fun x => decide (0 ≤ x)) o.field; omega)
end Go.Proofs.Ytnhicpkhkaihoaa.P
