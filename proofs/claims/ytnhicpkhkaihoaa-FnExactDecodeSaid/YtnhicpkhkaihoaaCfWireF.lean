/- Logs, as they are read. -/
import Derived.Test.YtnhicpkhkaihoaaCfWireE
namespace Go.Proofs.Ytnhicpkhkaihoaa.P
open Go Go.Proofs.Ytnhicpkhkaihoaa Go.Proofs.Ytnhicpkhkaihoaa.Eng
set_option maxHeartbeats 4000000
set_option linter.unusedVariables false
set_option linter.unusedSimpArgs false
attribute [local irreducible] prP gP gE gF cndP ixW ldc ldg ldl stc stg scW mkW apW loopP cl2 joinP pre2
variable {w0 : World}
theorem CutPrefix_c {s p : ByteArray} {K : J2} (hs : (s.size : Int) < 2 ^ 61) (hp : (p.size : Int) < 2 ^ 61) (h1 : p.size ≤ s.size → s.extract 0 p.size = p → K [.string (dr s p.size), .bool true] []) (h2 : (s.size < p.size ∨ s.extract 0 p.size ≠ p) → K [.string s, .bool false] []) : cl2 ⟨Try.prog, w0⟩ 170 strings_CutPrefix.sg [.string s, .string p] [] K := by
  refine strings_CutPrefix.cl2 (stringslite_CutPrefix.cl2 (stringslite_HasPrefix.cl2 ?_))
  unfold stringslite_HasPrefix.txt
  refine prP_lnS (prP_lnS (prP_geq (gE_x (gE_x (gP_dt (fun hge => ?_) fun hlt => ?_)))))
  · refine prP_lnS (gP_yt hge (sc_t (by omega) (gE_x (gP_yt hge (prP_eqSd (pk_y hge rfl ?_))))))
    refine prP_notd (cndP_d (fun hne => h2 (.inr hne)) fun heq => ?_)
    exact prP_lnS (sc_f (by omega) (h1 (by omega) (Decidable.not_not.1 heq)))
  · refine gP_nt hlt (gE_x (gP_nt hlt (pk_n hlt rfl (prP_not (cndP_T (h2 (.inl (by omega))))))))
/-- Frames, one behind the other: what they bear, and how it ends. -/
def rlF : Nat → ByteArray → List ByteArray → List ByteArray × Int
  | 0, _, _ => ([], 4)
  | f + 1, s, out => if s.size = 0 then ([], 4) else if (rf s).n = 0 then ([], 2) else if (rf s).seq ≠ out.length then ([], 3) else
      if (rf s).pay = ⟨#[]⟩ then (if (rf s).n < s.size then ([], 5) else (out, 0)) else rlF f (dr s (rf s).n.toNat) (out ++ [(rf s).pay])
def rl (s : ByteArray) : List ByteArray × Int := if s.size < 5 ∨ s.extract 0 5 ≠ magic then ([], 1) else rlF (s.size + 1) (dr s 5) []
theorem BA_zero {s : ByteArray} : s.size = 0 ↔ s = ⟨#[]⟩ := ⟨fun h => ByteArray.ext (Array.eq_empty_of_size_eq_zero h), fun h => by rw [h]; rfl⟩
theorem rlF_len : ∀ (f : Nat) (s : ByteArray) (out : List ByteArray), (rlF f s out).1.length ≤ out.length + f ∧ ((∀ p ∈ out, p.size ≤ 200) → ∀ p ∈ (rlF f s out).1, p.size ≤ 200)
  | 0, s, out => by simp [rlF]
  | f + 1, s, out => by
    have hb := rf_bd s
    simp only [rlF]
    split
    · simp
    · split
      · simp
      · split
        · simp
        · split
          · split
            · simp
            · exact ⟨by simp only; omega, fun h => h⟩
          · have ih := rlF_len f (dr s (rf s).n.toNat) (out ++ [(rf s).pay])
            refine ⟨by have := ih.1; simp only [List.length_append, List.length_singleton] at this; omega, fun h => ih.2 fun p hp => ?_⟩
            rcases List.mem_append.1 hp with h1 | h1
            · exact h p h1
            · rw [List.mem_singleton.1 h1]; exact hb.2.2.2.1
theorem rl_len (s : ByteArray) : (rl s).1.length ≤ s.size + 1 ∧ ∀ p ∈ (rl s).1, p.size ≤ 200 := by
  unfold rl; split
  · simp
  · have := rlF_len (s.size + 1) (dr s 5) []
    exact ⟨by simpa using this.1, this.2 (by simp)⟩
/-- At the head of the loop. -/
structure RlI (s0 s : ByteArray) (out : List ByteArray) : Prop where
  sz : s.size + out.length ≤ s0.size
  go : ∃ f, s.size < f ∧ rlF f s out = rl s0
theorem RlI.next {s0 s : ByteArray} {out : List ByteArray} (h : RlI s0 s out) (h0 : s.size ≠ 0) (h1 : (rf s).n ≠ 0) (h2 : (rf s).seq = out.length) (h3 : (rf s).pay ≠ ⟨#[]⟩) : RlI s0 (dr s (rf s).n.toNat) (out ++ [(rf s).pay]) := by
  obtain ⟨g1, f, g2, g3⟩ := h
  have hb := rf_bd s
  have := hb.2.2.1 h1
  obtain ⟨f, rfl⟩ : ∃ f', f = f' + 1 := ⟨f - 1, by omega⟩
  rw [rlF, if_neg h0, if_neg h1, if_neg (by simpa using h2), if_neg h3] at g3
  exact ⟨by rw [dr_size, List.length_append, List.length_singleton]; omega, f, by rw [dr_size]; omega, g3⟩
theorem RlI.at_ {s0 s : ByteArray} {out : List ByteArray} (h : RlI s0 s out) : ∃ f, rlF (f + 1) s out = rl s0 := by
  obtain ⟨_, f, g2, g3⟩ := h
  obtain ⟨f, rfl⟩ : ∃ f', f = f' + 1 := ⟨f - 1, by omega⟩
  exact ⟨f, g3⟩
theorem rl_start {s : ByteArray} (h5 : 5 ≤ s.size) (hm : s.extract 0 5 = magic) : RlI s (dr s 5) [] := by
  refine ⟨by rw [dr_size]; simp, s.size + 1, by rw [dr_size]; omega, ?_⟩
  rw [rl, if_neg (by rintro (h | h); omega; exact h hm)]
attribute [irreducible] rl
theorem impl_ReadLog_c {s : ByteArray} {K : J2} (hs : (s.size : Int) < 2 ^ 40) (h : K [I (rl s).2] [tS (rl s).1]) : cl2 ⟨Try.prog, w0⟩ 106 impl_ReadLog.sg [.string s] [] K := by
  refine impl_ReadLog.cl2 ?_
  unfold impl_ReadLog.txt
  have hm5 : magic.size = 5 := rfl
  refine CutPrefix_c (p := magic) (by omega) (by rw [hm5]; omega) (fun h5 hm => ?_) fun hn => ?_
  · rw [hm5] at h5 hm
    refine prP_not (cndP_F ?_)
    refine loopP_wf (α := ByteArray × List ByteArray) (fun p => [.string p.1]) (fun p => [tS p.2]) (fun p => p.1.size) (fun p => RlI s p.1 p.2) (dr s 5, []) rfl rfl (rl_start h5 hm) (fun R p hp hR => ?_)
    obtain ⟨r, out⟩ := p
    have hI : RlI s r out := hp
    obtain ⟨f, hf⟩ := hI.at_
    have hsz := hI.sz
    have hb := rf_bd r
    simp only [cnt_tO, cnt_tW, cnt_tP, cnt_tA, cnt_tN, cnt_tI, cnt_tS, cnt1_1, cnt1_0, cnt2_1, cnt3_1, cnt5_1, cnt6_1, cnt8_1, nx_0, nx_1, nx_2, nx_3, nx_4, nx_5, nx_6, nxc_0, nxc_1, nxc_2, nxc_3, nxc_4, nxc_5]
    refine prP_neSd (cndP_d (fun hne => ?_) fun he => ?_)
    · have h0 : r.size ≠ 0 := fun hh => hne (BA_zero.1 hh)
      rw [rlF, if_neg h0] at hf
      refine impl_ReadFrame_c (by omega) (prP_eqd (cndP_d (fun h1 => ?_) fun h1 => ?_))
      · rw [if_pos h1] at hf; rw [← hf] at h; exact h
      · rw [if_neg h1] at hf
        refine prP_ned (cndP_d (fun h2 => ?_) fun h2 => ?_)
        · rw [if_pos h2] at hf; rw [← hf] at h; exact h
        · rw [if_neg h2] at hf
          by_cases h3 : (rf r).pay = ⟨#[]⟩
          · rw [if_pos h3] at hf
            refine prP_eqSd (gE_x (gE_x (gP_yt h3 (prP_lnS (gP_yt h3 (prP_lss (pk_y h3 rfl (cndP_d (fun h4 => ?_) fun h4 => ?_))))))))
            · rw [if_pos h4] at hf; rw [← hf] at h; exact h
            · rw [if_neg h4] at hf
              refine prP_eqSd (cndP_yes h3 ?_)
              rw [← hf] at h; exact h
          · have := hR (dr r (rf r).n.toNat, out ++ [(rf r).pay]) (hI.next h0 h1 (Decidable.not_not.1 h2) h3) (by simp only [dr_size]; have := hb.2.2.1 h1; omega)
            simp only at this
            rw [← tS_snoc] at this
            refine prP_eqSd (gE_x (gE_x (gP_nt h3 (gP_nt h3 (pk_n h3 rfl (cndP_F (prP_eqSd (cndP_no h3 (apW_p rfl (by omega) (sc_fI (by omega) (by omega) ?_))))))))))
            exact this
    · have h0 : r.size = 0 := BA_zero.2 (Decidable.not_not.1 he)
      rw [rlF, if_pos h0] at hf
      rw [← hf] at h; exact h
  · refine prP_not (cndP_T ?_)
    have : rl s = ([], 1) := by rw [rl, if_pos (by rw [hm5] at hn; exact hn)]
    rw [this] at h; exact h
theorem spec_ReadLog_c {s : ByteArray} {K : J2} (hs : (s.size : Int) < 2 ^ 40) (h : K [I (rl s).2] [tS (rl s).1]) : cl2 ⟨Try.prog, w0⟩ 105 spec_ReadLog.sg [.string s] [] K := by
  refine spec_ReadLog.cl2 (spec_l4Magic.cl2 ?_)
  have hm5 : magic.size = 5 := rfl
  have bad : (s.size < 5 ∨ s.extract 0 5 ≠ magic) → K [I 1] [[]] := fun hn => by
    have : rl s = ([], 1) := by rw [rl, if_pos hn]
    rw [this] at h; exact h
  show prP (lnS (.string s)) _
  refine prP_lnS (prP_lnS (prP_lss (gE_x (gE_x (gP_df (fun hge => ?_) fun hlt => ?_)))))
  · have hge' : 5 ≤ s.size := by
      have : ¬ ((s.size : Int) < 5) := hge
      omega
    refine prP_lnS (gP_nf hge (sc_t (b := 5) hge' (gE_x (gP_nf hge (prP_neSd (pk_n hge rfl (cndP_d (fun hne => bad (.inr hne)) fun he => ?_)))))))
    have hm : s.extract 0 5 = magic := Decidable.not_not.1 he
    refine prP_lnS ?_
    refine loopP_wf (α := Nat × List ByteArray) (fun p => [.string s, iv p.1]) (fun p => [[], tS p.2]) (fun p => s.size - p.1) (fun p => p.1 ≤ s.size ∧ RlI s (dr s p.1) p.2) (5, []) rfl rfl ⟨hge', rl_start hge' hm⟩ (fun R p hp hR => ?_)
    obtain ⟨a, out⟩ := p
    obtain ⟨ha, hI⟩ := hp
    simp only at ha hI
    obtain ⟨f, hf⟩ := hI.at_
    have hsz := hI.sz
    have hb := rf_bd (dr s a)
    rw [dr_size] at hsz hb
    simp only [cnt_tO, cnt_tW, cnt_tP, cnt_tA, cnt_tN, cnt_tI, cnt_tS, cnt1_1, cnt1_0, cnt2_1, cnt3_1, cnt5_1, cnt6_1, cnt8_1, nx_0, nx_1, nx_2, nx_3, nx_4, nx_5, nx_6, nxc_0, nxc_1, nxc_2, nxc_3, nxc_4, nxc_5]
    refine prP_lnS (prP_lss (cndP_d (fun hlt2 => ?_) fun hge2 => ?_))
    · have h0 : (dr s a).size ≠ 0 := by rw [dr_size]; omega
      rw [rlF, if_neg h0] at hf
      refine sc_f (by omega) (spec_ReadFrame_c (by rw [dr_size]; omega) (prP_eqd (cndP_d (fun h1 => ?_) fun h1 => ?_)))
      · rw [if_pos h1] at hf; rw [← hf] at h; exact h
      · rw [if_neg h1] at hf
        refine prP_ned (cndP_d (fun h2 => ?_) fun h2 => ?_)
        · rw [if_pos h2] at hf; rw [← hf] at h; exact h
        · rw [if_neg h2] at hf
          have h6 := hb.2.2.1 h1
          refine prP_add ⟨by omega, by omega⟩ (prP_eqSd (cndP_d (fun h3 => ?_) fun h3 => ?_))
          · rw [if_pos h3, dr_size] at hf
            refine prP_lnS (prP_lss (cndP_d (fun h4 => ?_) fun h4 => ?_))
            · rw [if_pos (by omega)] at hf; rw [← hf] at h; exact h
            · rw [if_neg (by omega)] at hf; rw [← hf] at h; exact h
          · have hn := hI.next h0 h1 (Decidable.not_not.1 h2) h3
            rw [dr_dr _ _ _ (by omega)] at hn
            have := hR (a + (rf (dr s a)).n.toNat, out ++ [(rf (dr s a)).pay]) ⟨by simp only; omega, hn⟩ (by simp only; omega)
            simp only at this
            rw [← tS_snoc] at this
            have e : (a : Int) + (rf (dr s a)).n = ((a + (rf (dr s a)).n.toNat : Nat) : Int) := by omega
            refine apW_p rfl (by omega) ?_
            rw [e]; exact this
    · have h0 : (dr s a).size = 0 := by rw [dr_size]; omega
      rw [rlF, if_pos h0] at hf
      rw [← hf] at h; exact h
  · have hlt' : s.size < 5 := by
      have : (s.size : Int) < 5 := hlt
      omega
    exact gP_yf hlt (gE_x (gP_yf hlt (pk_y hlt rfl (cndP_T (bad (.inl hlt'))))))
end Go.Proofs.Ytnhicpkhkaihoaa.P
