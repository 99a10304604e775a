/- The laws of ReadEvent and Decode over their pure texts. -/
import Derived.Test.YtnhicpkhkaihoaaCfWireH
import Derived.Test.YtnhicpkhkaihoaaCfWireC
namespace Go.Proofs.Ytnhicpkhkaihoaa.P
open Go Go.Proofs.Ytnhicpkhkaihoaa Go.Proofs.Ytnhicpkhkaihoaa.Eng
set_option maxHeartbeats 4000000
set_option linter.unusedVariables false
set_option linter.unusedSimpArgs false
attribute [local irreducible] prP gP gE gF cndP ixW ldc ldg ldl stc stg scW mkW apW loopP cl2 joinP pre2
variable {w0 : World}
theorem readE_bd (n : Int) (l : List ByteArray) (s : ByteArray) : (readE n l s).a.freed.length ≤ 8 ∧ (readE n l s).sites.length ≤ l.length + 1 ∧ (readE n l s).o.site.size ≤ s.size + 8 := by
  unfold readE
  split
  · exact ⟨Nat.zero_le _, Nat.le_succ _, Nat.zero_le _⟩
  · rename_i e he
    split
    · rename_i hok
      have h1 := show1_size n l e.1 e.2
      refine ⟨?_, h1.2, ?_⟩
      · rcases Nat.lt_or_ge 8 e.2.freed.length with h | h
        · exact absurd (show1_long h) hok.1
        · exact h
      · have hne := hok.1
        rw [show1, showR] at hne
        split at hne
        · rename_i hk
          simp only [okE, spkB, Bool.and_eq_true, decide_eq_true_eq] at hk
          simp only; omega
        · exact absurd rfl hne
    · exact ⟨Nat.zero_le _, Nat.le_succ _, Nat.zero_le _⟩
structure PenF (n : Int) (l : List ByteArray) : Prop where
  n : F64 n
  len : (l.length : Int) < 2 ^ 63
  all : ∀ s ∈ l, (s.size : Int) < 2 ^ 63
/-! ### Decode -/
def dcd (ps : List ByteArray) : Nat → Option (List Op5 × List An × Int × List ByteArray)
  | 0 => some ([], [], 0, [])
  | i + 1 => match dcd ps i with
    | none => none
    | some q => if (readE q.2.2.1 q.2.2.2 (gS ps i)).ok = true then some (q.1 ++ [(readE q.2.2.1 q.2.2.2 (gS ps i)).o], q.2.1 ++ [(readE q.2.2.1 q.2.2.2 (gS ps i)).a], (readE q.2.2.1 q.2.2.2 (gS ps i)).last, (readE q.2.2.1 q.2.2.2 (gS ps i)).sites) else none
theorem dcd_none {ps : List ByteArray} {i : Nat} (h : dcd ps i = none) : ∀ k, i ≤ k → dcd ps k = none
  | 0, hk => by
    have : i = 0 := by omega
    subst this; exact h
  | k + 1, hk => by
    rcases Nat.lt_or_ge k i with h1 | h1
    · have : i = k + 1 := by omega
      subst this; exact h
    · rw [dcd, dcd_none h k h1]
def decode (s : ByteArray) : List Op5 × List An × Int := if (rl s).2 ≠ 0 then ([], [], 1) else match dcd (rl s).1 (rl s).1.length with
  | none => ([], [], 2)
  | some q => (q.1, q.2.1, 0)
structure DcI (ps : List ByteArray) (q : Nat × List Op5 × List An × Int × List ByteArray) : Prop where
  eq : dcd ps q.1 = some q.2
  le : q.1 ≤ ps.length
  ol : q.2.1.length = q.1
  al : q.2.2.1.length = q.1
  sl : q.2.2.2.2.length ≤ q.1
  fr : ∀ a ∈ q.2.2.1, a.freed.length ≤ 8
theorem DcI.next {ps : List ByteArray} {q : Nat × List Op5 × List An × Int × List ByteArray} (h : DcI ps q) (hlt : q.1 < ps.length) (hok : (readE q.2.2.2.1 q.2.2.2.2 (gS ps q.1)).ok = true) :
    DcI ps (q.1 + 1, q.2.1 ++ [(readE q.2.2.2.1 q.2.2.2.2 (gS ps q.1)).o], q.2.2.1 ++ [(readE q.2.2.2.1 q.2.2.2.2 (gS ps q.1)).a], (readE q.2.2.2.1 q.2.2.2.2 (gS ps q.1)).last, (readE q.2.2.2.1 q.2.2.2.2 (gS ps q.1)).sites) := by
  obtain ⟨h1, h2, h3, h4, h5, h6⟩ := h
  have hb := readE_bd q.2.2.2.1 q.2.2.2.2 (gS ps q.1)
  refine ⟨by rw [dcd, h1]; exact if_pos hok, hlt, by simp [h3], by simp [h4], by simp only; omega, fun a ha => ?_⟩
  rcases List.mem_append.1 ha with ha | ha
  · exact h6 a ha
  · rw [List.mem_singleton.1 ha]; exact hb.1
theorem DcI.zero (ps : List ByteArray) : DcI ps (0, [], [], 0, []) := ⟨rfl, Nat.zero_le _, rfl, rfl, Nat.le_refl _, by simp⟩
theorem dcd_ok {ps : List ByteArray} : ∀ (i : Nat) q, i ≤ ps.length → dcd ps i = some q → DcI ps (i, q)
  | 0, q, _, h => by
    simp only [dcd, Option.some.injEq] at h
    subst h; exact DcI.zero ps
  | i + 1, q, hi, h => by
    rw [dcd] at h
    split at h
    · cases h
    · rename_i p hp
      split at h
      · rename_i hok
        cases h
        exact (dcd_ok i p (by omega) hp).next (by simp only; omega) hok
      · cases h
theorem decode_bd (s : ByteArray) : (decode s).1.length ≤ s.size + 1 ∧ (decode s).2.1.length ≤ s.size + 1 ∧ ∀ a ∈ (decode s).2.1, a.freed.length ≤ 8 := by
  have hl := (rl_len s).1
  unfold decode
  split
  · simp
  · split
    · simp
    · rename_i q hq
      obtain ⟨h1, h2, h3, h4, h5, h6⟩ := dcd_ok _ q (Nat.le_refl _) hq
      simp only at h2 h3 h4 h6
      exact ⟨by simp only; omega, by simp only; omega, h6⟩
theorem tP_snoc (l : List Op5) (x : Op5) : tR tP l ++ [T.c (I x.kind), .c (I x.a), .c (I x.b), .c (I x.c), .c (.string x.site)] = tR tP (l ++ [x]) := tR_snoc l x
theorem tA_snoc (l : List An) (x : An) : tR tA l ++ [T.c (I x.code), .c (I x.val), .l 1 (tI x.freed)] = tR tA (l ++ [x]) := tR_snoc l x
theorem impl_Decode_c {s : ByteArray} {K : J2} (hs : (s.size : Int) < 2 ^ 30) (h : K [I (decode s).2.2] [tR tP (decode s).1, tR tA (decode s).2.1]) : cl2 ⟨Try.prog, w0⟩ 44 impl_Decode.sg [.string s] [] K := by
  refine impl_Decode.cl2 ?_
  unfold impl_Decode.txt
  have hl := rl_len s
  refine impl_ReadLog_c (by omega) (prP_ned (cndP_d (fun h0 => ?_) fun h0 => ?_))
  · rw [decode, if_pos h0] at h; exact h
  · rw [decode, if_neg h0] at h
    generalize (rl s).1 = ps at hl h ⊢
    simp only [cnt_tO, cnt_tW, cnt_tP, cnt_tA, cnt_tN, cnt_tI, cnt_tS, cnt1_1, cnt1_0, cnt2_1, cnt3_1, cnt5_1, cnt6_1, cnt8_1, nx_0, nx_1, nx_2, nx_3, nx_4, nx_5, nx_6, nxc_0, nxc_1, nxc_2, nxc_3, nxc_4, nxc_5]
    refine loopP_wf (α := Nat × List Op5 × List An × Int × List ByteArray) (fun q => [iv ps.length, iv q.1, I q.2.2.2.1]) (fun q => [tR tP q.2.1, tR tA q.2.2.1, tS ps, tS q.2.2.2.2]) (fun q => ps.length - q.1) (DcI ps) (0, [], [], 0, []) rfl rfl (DcI.zero ps) (fun R q hq hR => ?_)
    obtain ⟨h1, h2, h3, h4, h5, h6⟩ := id hq
    simp only [cnt_tO, cnt_tW, cnt_tP, cnt_tA, cnt_tN, cnt_tI, cnt_tS, cnt1_1, cnt1_0, cnt2_1, cnt3_1, cnt5_1, cnt6_1, cnt8_1, nx_0, nx_1, nx_2, nx_3, nx_4, nx_5, nx_6, nxc_0, nxc_1, nxc_2, nxc_3, nxc_4, nxc_5]
    refine prP_lss (cndP_d (fun hlt => ?_) fun hge => ?_)
    · have hlt : q.1 < ps.length := by omega
      have hz := hl.2 _ (gS_mem hlt)
      have hn := fun hok => hR _ (hq.next hlt hok) (by simp only; omega)
      simp only at hn
      refine ixW_iv hlt (ldS hlt (impl_ReadEvent_c (by omega) (by omega) (prP_not ?_)))
      cases hok : (readE q.2.2.2.1 q.2.2.2.2 (gS ps q.1)).ok with
      | false =>
        refine cndP_T ?_
        have : dcd ps (q.1 + 1) = none := by rw [dcd, h1]; exact if_neg (by rw [hok]; decide)
        rw [dcd_none this ps.length hlt] at h; exact h
      | true =>
        refine cndP_F (apW_p rfl (by first | omega | (simp only [cnt_tO, cnt_tW, cnt_tP, cnt_tA, cnt_tN, cnt_tI, cnt_tS, cnt1_1, cnt1_0, cnt2_1, cnt3_1, cnt5_1, cnt6_1, cnt8_1, nx_0, nx_1, nx_2, nx_3, nx_4, nx_5, nx_6, nxc_0, nxc_1, nxc_2, nxc_3, nxc_4, nxc_5]; omega)) (apW_n (by first | omega | (simp only [cnt_tO, cnt_tW, cnt_tP, cnt_tA, cnt_tN, cnt_tI, cnt_tS, cnt1_1, cnt1_0, cnt2_1, cnt3_1, cnt5_1, cnt6_1, cnt8_1, nx_0, nx_1, nx_2, nx_3, nx_4, nx_5, nx_6, nxc_0, nxc_1, nxc_2, nxc_3, nxc_4, nxc_5]; omega)) (prP_inc (by omega) ?_)))
        have := hn hok
        rw [← tP_snoc, ← tA_snoc] at this
        exact this
    · have he : q.1 = ps.length := by omega
      rw [he] at h1
      rw [h1] at h; exact h
theorem spec_Decode_c {s : ByteArray} {K : J2} (hs : (s.size : Int) < 2 ^ 30) (h : K [I (decode s).2.2] [tR tP (decode s).1, tR tA (decode s).2.1]) : cl2 ⟨Try.prog, w0⟩ 43 spec_Decode.sg [.string s] [] K := by
  refine spec_Decode.cl2 ?_
  unfold spec_Decode.txt
  have hl := rl_len s
  refine spec_ReadLog_c (by omega) (prP_ned (cndP_d (fun h0 => ?_) fun h0 => ?_))
  · rw [decode, if_pos h0] at h; exact h
  · rw [decode, if_neg h0] at h
    generalize (rl s).1 = ps at hl h ⊢
    simp only [cnt_tO, cnt_tW, cnt_tP, cnt_tA, cnt_tN, cnt_tI, cnt_tS, cnt1_1, cnt1_0, cnt2_1, cnt3_1, cnt5_1, cnt6_1, cnt8_1, nx_0, nx_1, nx_2, nx_3, nx_4, nx_5, nx_6, nxc_0, nxc_1, nxc_2, nxc_3, nxc_4, nxc_5]
    refine loopP_wf (α := Nat × List Op5 × List An × Int × List ByteArray) (fun q => [iv q.1, I q.2.2.2.1]) (fun q => [tS ps, tR tP q.2.1, tR tA q.2.2.1, tS q.2.2.2.2]) (fun q => ps.length - q.1) (DcI ps) (0, [], [], 0, []) rfl rfl (DcI.zero ps) (fun R q hq hR => ?_)
    obtain ⟨h1, h2, h3, h4, h5, h6⟩ := id hq
    simp only [cnt_tO, cnt_tW, cnt_tP, cnt_tA, cnt_tN, cnt_tI, cnt_tS, cnt1_1, cnt1_0, cnt2_1, cnt3_1, cnt5_1, cnt6_1, cnt8_1, nx_0, nx_1, nx_2, nx_3, nx_4, nx_5, nx_6, nxc_0, nxc_1, nxc_2, nxc_3, nxc_4, nxc_5]
    refine prP_lss (cndP_d (fun hlt => ?_) fun hge => ?_)
    · have hlt : q.1 < ps.length := by omega
      have hz := hl.2 _ (gS_mem hlt)
      have hn := fun hok => hR _ (hq.next hlt hok) (by simp only; omega)
      simp only at hn
      refine ixW_iv hlt (ldS hlt (spec_ReadEvent_c (by omega) (by omega) (prP_not ?_)))
      cases hok : (readE q.2.2.2.1 q.2.2.2.2 (gS ps q.1)).ok with
      | false =>
        refine cndP_T ?_
        have : dcd ps (q.1 + 1) = none := by rw [dcd, h1]; exact if_neg (by rw [hok]; decide)
        rw [dcd_none this ps.length hlt] at h; exact h
      | true =>
        refine cndP_F (apW_p rfl (by first | omega | (simp only [cnt_tO, cnt_tW, cnt_tP, cnt_tA, cnt_tN, cnt_tI, cnt_tS, cnt1_1, cnt1_0, cnt2_1, cnt3_1, cnt5_1, cnt6_1, cnt8_1, nx_0, nx_1, nx_2, nx_3, nx_4, nx_5, nx_6, nxc_0, nxc_1, nxc_2, nxc_3, nxc_4, nxc_5]; omega)) (apW_n (by first | omega | (simp only [cnt_tO, cnt_tW, cnt_tP, cnt_tA, cnt_tN, cnt_tI, cnt_tS, cnt1_1, cnt1_0, cnt2_1, cnt3_1, cnt5_1, cnt6_1, cnt8_1, nx_0, nx_1, nx_2, nx_3, nx_4, nx_5, nx_6, nxc_0, nxc_1, nxc_2, nxc_3, nxc_4, nxc_5]; omega)) (prP_inc (by omega) ?_)))
        have := hn hok
        rw [← tP_snoc, ← tA_snoc] at this
        exact this
    · have he : q.1 = ps.length := by omega
      rw [he] at h1
      rw [h1] at h; exact h
theorem ops_sz {l : List Op5} {b : Nat} (h : l.length ≤ b) : 0 ≤ szL szOp5 l ∧ szL szOp5 l ≤ 5 * b := by
  refine ⟨szL_pos szOp5_pos _, ?_⟩
  have := szL_le (sz := szOp5) (b := 5) (l := l) fun o _ => by unfold szOp5; omega
  omega
theorem ans_sz {l : List An} {b : Nat} (h : l.length ≤ b) (hf : ∀ a ∈ l, a.freed.length ≤ 8) : 0 ≤ szL szAn l ∧ szL szAn l ≤ 10 * b := by
  refine ⟨szL_pos szAn_pos _, ?_⟩
  have := szL_le (sz := szAn) (b := 10) (l := l) fun o ho => by have := hf o ho; unfold szAn; omega
  omega
theorem FnExactDecode_t {s : ByteArray} (hs : s.size ≤ maxLen) {K : J2} (done : K [.bool true] []) : laws_FnExactDecode.txt ⟨Try.prog, w0⟩ (.string s) K := by
  have hm : maxLen = 2 ^ 63 - 1 := rfl
  unfold laws_FnExactDecode.txt
  refine prP_lnS (prP_gtr (cndP_d (fun _ => done) fun hle => ?_))
  have hb := decode_bd s
  refine spec_Decode_c (by omega) (impl_Decode_c (by omega) ?_)
  obtain ⟨e, he⟩ : ∃ e, decode s = e := ⟨_, rfl⟩
  rw [he] at hb ⊢
  have z1 := ops_sz hb.1
  have z2 := ans_sz hb.2.1 hb.2.2
  have hfr : ∀ o ∈ e.2.1, (o.freed.length : Int) < 2 ^ 62 := fun o ho => by have := hb.2.2 o ho; omega
  repeat' (first | (refine impl_Decode_c (by omega) ?_; simp only [he]) | refine laws_eqOpS_c (by omega) ?_ | refine laws_eqAnswerS_c (by omega) hfr ?_ | refine laws_markOpS_c (by omega) (by omega) (by omega) ?_ | refine laws_markAnswerS_c (by omega) (by omega) (by omega) ?_ | refine laws_heldOpS_c (by omega) (by omega) (by omega) ?_ | refine laws_heldAnswerS_c (by omega) (by omega) (by omega) ?_ | refine prP_not (cndP_F ?_) | refine cndP_no (fun h => h rfl) ?_ | exact done | refine gE_x ?_ | refine gE_u ?_ | refine gP_u ?_ | refine gP_TT ?_ | refine gP_FF ?_ | refine gP_TF ?_ | refine gP_FT ?_ | refine gP_yt (by first | with_reducible assumption | omega) ?_ | refine gP_nt (by first | with_reducible assumption | omega) ?_ | refine gP_yf (by first | with_reducible assumption | omega) ?_ | refine gP_nf (by first | with_reducible assumption | omega) ?_ | refine gP_on (by with_reducible assumption) ?_ | refine gP_offt (by with_reducible assumption) ?_ | refine gP_offf (by with_reducible assumption) ?_ | refine pk_t (by with_reducible assumption) rfl ?_ | refine pk_f (by with_reducible assumption) rfl ?_ | refine pk_y (by first | with_reducible assumption | omega) rfl ?_ | refine pk_n (by first | with_reducible assumption | omega) rfl ?_ | refine pk_T rfl ?_ | refine pk_F rfl ?_ | refine cndP_T ?_ | refine cndP_F ?_ | refine cndP_yes (by first | with_reducible assumption | omega) ?_ | refine cndP_no (by first | with_reducible assumption | omega) ?_ | refine cndP_on (by with_reducible assumption) ?_ | refine cndP_off (by with_reducible assumption) ?_ | refine prP_lss ?_ | refine prP_leq ?_ | refine prP_gtr ?_ | refine prP_geq ?_ | refine prP_eqd ?_ | refine prP_ned ?_ | refine prP_notnd ?_ | refine prP_notd ?_ | refine prP_lnS ?_ | refine prP_inc (by omega) ?_ | refine prP_add ⟨by omega, by omega⟩ ?_ | refine prP_sub ⟨by omega, by omega⟩ ?_ | refine prP_addw ?_ | refine prP_subw ?_ | refine prP_rem (by omega) (by omega) ?_ | refine prP_quo (by omega) ⟨by omega, by omega⟩ (by omega) ?_ | refine prP_eqSd ?_ | refine prP_neSd ?_ | refine prP_catS (by first | omega | (simp only [ByteArray.size_append]; omega)) ?_ | refine prP_eqB ?_ | refine prP_neB ?_ | refine ixW_iv (by omega) ?_ | refine ixW_c (by omega) (by omega) ?_ | refine ldI (by omega) ?_ | refine ldS (by omega) ?_ | refine ldg_ob (by omega) ?_ | refine ldg_wk (by omega) ?_ | refine ldg_po (by omega) ?_ | refine ldg_an (by omega) ?_ | refine ldg_nd (by omega) ?_ | refine ldc_ob (by omega) (by decide) rfl ?_ | refine ldc_ob0 (by omega) rfl ?_ | refine ldc_wk (by omega) (by decide) rfl ?_ | refine ldc_wk0 (by omega) rfl ?_ | refine ldc_po (by omega) (by decide) rfl ?_ | refine ldc_po0 (by omega) rfl ?_ | refine ldc_an (by omega) (by decide) rfl ?_ | refine ldc_an0 (by omega) rfl ?_ | refine ldc_nd (by omega) (by decide) rfl ?_ | refine ldc_nd0 (by omega) rfl ?_ | refine ldf_ob (by omega) (by omega) ?_ | refine ldl_ob (by omega) ?_ | refine ldf_nd (by omega) (by omega) ?_ | refine ldl_nd (by omega) ?_ | refine ldf_an (by omega) (by omega) ?_ | refine ldl_an (by omega) ?_ | refine ldg_tR (by omega) rfl rfl ?_ | refine ldc_tI (by omega) ?_ | refine ldc_tS (by omega) ?_ | refine ldc_tR (by omega) (by decide) rfl ?_ | refine ldc_tR0 (by omega) rfl ?_ | refine apW_p (by first | exact flat_tI _ | exact flat_tS _ | exact flat_tW _ | exact flat_tP _ | rfl) (by omega) ?_ | refine apW_n (by omega) ?_ | refine cndP_d (fun _ => ?_) (fun _ => ?_) | refine pk_sd rfl rfl (fun _ => ?_) (fun _ => ?_) | refine pk_sb rfl rfl (fun _ => ?_) (fun _ => ?_) | refine gP_dt (fun _ => ?_) (fun _ => ?_) | refine gP_df (fun _ => ?_) (fun _ => ?_) | refine cndP_i (fun _ => ?_) (fun _ => ?_) | refine gP_ct (fun _ => ?_) (fun _ => ?_) | refine gP_cf (fun _ => ?_) (fun _ => ?_) | refine prP_not ?_ | simp only [cnt_tO, cnt_tW, cnt_tP, cnt_tA, cnt_tN, cnt_tI, cnt_tS, cnt1_1, cnt1_0, cnt2_1, cnt3_1, cnt5_1, cnt6_1, cnt8_1, nx_0, nx_1, nx_2, nx_3, nx_4, nx_5, nx_6, nxc_0, nxc_1, nxc_2, nxc_3, nxc_4, nxc_5])
end Go.Proofs.Ytnhicpkhkaihoaa.P
