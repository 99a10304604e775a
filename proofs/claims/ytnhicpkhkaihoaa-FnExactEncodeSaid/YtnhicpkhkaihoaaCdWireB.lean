/- Encode. -/
import Derived.Test.YtnhicpkhkaihoaaCdWireA
namespace Go.Proofs.Ytnhicpkhkaihoaa.P
open Go Go.Proofs.Ytnhicpkhkaihoaa Go.Proofs.Ytnhicpkhkaihoaa.Eng
set_option linter.unusedVariables false
set_option linter.unusedSimpArgs false
attribute [local irreducible] prP gP gE gF cndP ixW ldc ldg ldl stc stg scW mkW apW loopP cl2 joinP pre2
variable {w0 : World}
def show1 (n : Int) (l : List ByteArray) (o : Op5) (a : An) : ByteArray × Int × List ByteArray := showR n l o.kind o.a o.b o.c o.site a.code a.val a.freed
theorem show1_size (n : Int) (l : List ByteArray) (o : Op5) (a : An) : (show1 n l o a).1.size ≤ 127 ∧ (show1 n l o a).2.2.length ≤ l.length + 1 := by
  unfold show1 showR
  split
  · rename_i h
    obtain ⟨_, hb, _, _, _, _, hx, hl, _⟩ := ok_parts h
    have h1 := base_size n l o.kind o.a o.b o.c o.site a.code a.val a.freed.length
    have h2 := (stE_ok (p := (base n l o.kind o.a o.b o.c o.site a.code a.val a.freed.length, o.a)) hb hx a.freed.length (Nat.le_refl _)).2
    refine ⟨by simp only at h2 ⊢; omega, ?_⟩
    simp only [penT]
    split
    · omega
    · simp
  · exact ⟨Nat.zero_le _, Nat.le_succ _⟩
def enc (ops : List Op5) (ans : List An) : Nat → Option (List ByteArray × Int × List ByteArray)
  | 0 => some ([], 0, [])
  | i + 1 => match enc ops ans i with
    | none => none
    | some p => if (show1 p.2.1 p.2.2 (po ops i) (an ans i)).1 = ⟨#[]⟩ then none else some (p.1 ++ [(show1 p.2.1 p.2.2 (po ops i) (an ans i)).1], (show1 p.2.1 p.2.2 (po ops i) (an ans i)).2)
theorem enc_none {ops : List Op5} {ans : List An} {i : Nat} (h : enc ops ans i = none) : ∀ k, i ≤ k → enc ops ans k = none
  | 0, hk => by
    have : i = 0 := by omega
    subst this; exact h
  | k + 1, hk => by
    rcases Nat.lt_or_ge k i with h1 | h1
    · have : i = k + 1 := by omega
      subst this; exact h
    · rw [enc, enc_none h k h1]
def encode (ops : List Op5) (ans : List An) : ByteArray := if ops.length ≠ ans.length ∨ ops.length ≥ 400 then ⟨#[]⟩ else match enc ops ans ops.length with
  | none => ⟨#[]⟩
  | some p => showL p.1
structure EncI (ops : List Op5) (ans : List An) (q : Nat × List ByteArray × Int × List ByteArray) : Prop where
  eq : enc ops ans q.1 = some q.2
  le : q.1 ≤ ops.length
  al : q.2.1.length = q.1
  sl : q.2.2.2.length ≤ q.1
  sz : ∀ i, (gS q.2.1 i).size ≤ 127
theorem gS_snoc {l : List ByteArray} {s : ByteArray} {b : Nat} (h : ∀ i, (gS l i).size ≤ b) (hs : s.size ≤ b) (i : Nat) : (gS (l ++ [s]) i).size ≤ b := by
  unfold gS at h ⊢
  rcases Nat.lt_trichotomy i l.length with h1 | h1 | h1
  · have := h i
    rw [List.getD_eq_getElem?_getD] at this ⊢
    rw [List.getElem?_append_left h1]; exact this
  · subst h1
    rw [List.getD_eq_getElem?_getD, List.getElem?_append_right (Nat.le_refl _)]
    simpa using hs
  · rw [List.getD_eq_getElem?_getD, List.getElem?_eq_none (by simp; omega)]; exact Nat.zero_le _
theorem EncI.next {ops : List Op5} {ans : List An} {q : Nat × List ByteArray × Int × List ByteArray} (h : EncI ops ans q) (hlt : q.1 < ops.length) (hne : (show1 q.2.2.1 q.2.2.2 (po ops q.1) (an ans q.1)).1 ≠ ⟨#[]⟩) :
    EncI ops ans (q.1 + 1, q.2.1 ++ [(show1 q.2.2.1 q.2.2.2 (po ops q.1) (an ans q.1)).1], (show1 q.2.2.1 q.2.2.2 (po ops q.1) (an ans q.1)).2) := by
  obtain ⟨h1, h2, h3, h4, h5⟩ := h
  have hz := show1_size q.2.2.1 q.2.2.2 (po ops q.1) (an ans q.1)
  refine ⟨by rw [enc, h1]; exact if_neg hne, hlt, by simp [h3], ?_, gS_snoc h5 hz.1⟩
  have := hz.2
  simp only at this ⊢; omega
theorem impl_Encode_c {ops : List Op5} {ans : List An} {K : J2} (hl : (ops.length : Int) ≤ 2 ^ 40) (hm : (ans.length : Int) ≤ 2 ^ 40) (hf : ∀ i, ((an ans i).freed.length : Int) < 2 ^ 62) (h : K [.string (encode ops ans)] []) : cl2 ⟨Try.prog, w0⟩ 29 impl_Encode.sg [] [tR tP ops, tR tA ans] K := by
  refine impl_Encode.cl2 ?_
  unfold impl_Encode.txt
  simp only [cnt_tO, cnt_tW, cnt_tP, cnt_tA, cnt_tN, cnt_tI, cnt_tS, cnt1_1, cnt1_0, cnt2_1, cnt3_1, cnt5_1, cnt6_1, cnt8_1, nx_0, nx_1, nx_2, nx_3, nx_4, nx_5, nx_6, nxc_0, nxc_1, nxc_2, nxc_3, nxc_4, nxc_5]
  repeat' (first | refine gE_x ?_ | refine gE_u ?_ | refine gP_u ?_ | refine gP_TT ?_ | refine gP_FF ?_ | refine gP_TF ?_ | refine gP_FT ?_ | refine gP_yt (by first | with_reducible assumption | omega) ?_ | refine gP_nt (by first | with_reducible assumption | omega) ?_ | refine gP_yf (by first | with_reducible assumption | omega) ?_ | refine gP_nf (by first | with_reducible assumption | omega) ?_ | refine gP_on (by with_reducible assumption) ?_ | refine gP_offt (by with_reducible assumption) ?_ | refine gP_offf (by with_reducible assumption) ?_ | refine pk_t (by with_reducible assumption) rfl ?_ | refine pk_f (by with_reducible assumption) rfl ?_ | refine pk_y (by first | with_reducible assumption | omega) rfl ?_ | refine pk_n (by first | with_reducible assumption | omega) rfl ?_ | refine pk_T rfl ?_ | refine pk_F rfl ?_ | refine cndP_T ?_ | refine cndP_F ?_ | refine cndP_yes (by first | with_reducible assumption | omega) ?_ | refine cndP_no (by first | with_reducible assumption | omega) ?_ | refine cndP_on (by with_reducible assumption) ?_ | refine cndP_off (by with_reducible assumption) ?_ | refine prP_lss ?_ | refine prP_leq ?_ | refine prP_gtr ?_ | refine prP_geq ?_ | refine prP_eqd ?_ | refine prP_ned ?_ | refine prP_notnd ?_ | refine prP_notd ?_ | refine prP_lnS ?_ | refine prP_inc (by omega) ?_ | refine prP_add ⟨by omega, by omega⟩ ?_ | refine prP_sub ⟨by omega, by omega⟩ ?_ | refine prP_addw ?_ | refine prP_subw ?_ | refine prP_rem (by omega) (by omega) ?_ | refine prP_quo (by omega) ⟨by omega, by omega⟩ (by omega) ?_ | refine prP_eqSd ?_ | refine prP_neSd ?_ | refine prP_catS (by first | omega | (simp only [ByteArray.size_append]; omega)) ?_ | refine prP_eqB ?_ | refine prP_neB ?_ | refine ixW_iv (by omega) ?_ | refine ixW_c (by omega) (by omega) ?_ | refine ldI (by omega) ?_ | refine ldS (by omega) ?_ | refine ldg_ob (by omega) ?_ | refine ldg_wk (by omega) ?_ | refine ldg_po (by omega) ?_ | refine ldg_an (by omega) ?_ | refine ldg_nd (by omega) ?_ | refine ldc_ob (by omega) (by decide) rfl ?_ | refine ldc_ob0 (by omega) rfl ?_ | refine ldc_wk (by omega) (by decide) rfl ?_ | refine ldc_wk0 (by omega) rfl ?_ | refine ldc_po (by omega) (by decide) rfl ?_ | refine ldc_po0 (by omega) rfl ?_ | refine ldc_an (by omega) (by decide) rfl ?_ | refine ldc_an0 (by omega) rfl ?_ | refine ldc_nd (by omega) (by decide) rfl ?_ | refine ldc_nd0 (by omega) rfl ?_ | refine ldf_ob (by omega) (by omega) ?_ | refine ldl_ob (by omega) ?_ | refine ldf_nd (by omega) (by omega) ?_ | refine ldl_nd (by omega) ?_ | refine ldf_an (by omega) (by omega) ?_ | refine ldl_an (by omega) ?_ | refine ldg_tR (by omega) rfl rfl ?_ | refine ldc_tI (by omega) ?_ | refine ldc_tS (by omega) ?_ | refine ldc_tR (by omega) (by decide) rfl ?_ | refine ldc_tR0 (by omega) rfl ?_ | refine apW_p (by first | exact flat_tI _ | exact flat_tS _ | exact flat_tW _ | exact flat_tP _ | rfl) (by omega) ?_ | refine apW_n (by omega) ?_ | refine cndP_d (fun _ => ?_) (fun _ => ?_) | refine pk_sd rfl rfl (fun _ => ?_) (fun _ => ?_) | refine pk_sb rfl rfl (fun _ => ?_) (fun _ => ?_) | refine gP_dt (fun _ => ?_) (fun _ => ?_) | refine gP_df (fun _ => ?_) (fun _ => ?_) | refine cndP_i (fun _ => ?_) (fun _ => ?_) | refine gP_ct (fun _ => ?_) (fun _ => ?_) | refine gP_cf (fun _ => ?_) (fun _ => ?_) | refine prP_not ?_ | simp only [cnt_tO, cnt_tW, cnt_tP, cnt_tA, cnt_tN, cnt_tI, cnt_tS, cnt1_1, cnt1_0, cnt2_1, cnt3_1, cnt5_1, cnt6_1, cnt8_1, nx_0, nx_1, nx_2, nx_3, nx_4, nx_5, nx_6, nxc_0, nxc_1, nxc_2, nxc_3, nxc_4, nxc_5])
  · rw [encode, if_pos (by omega)] at h; exact h
  · rename_i hne hge
    rw [encode, if_neg (by omega)] at h
    refine loopP_wf (α := Nat × List ByteArray × Int × List ByteArray) (fun q => [iv ops.length, iv q.1, I q.2.2.1]) (fun q => [tS q.2.1, tS q.2.2.2]) (fun q => ops.length - q.1) (EncI ops ans) (0, [], 0, []) rfl rfl ⟨rfl, Nat.zero_le _, rfl, Nat.le_refl _, fun i => (Nat.zero_le 127 : (gS [] i).size ≤ 127)⟩ (fun R q hq hR => ?_)
    obtain ⟨h1, h2, h3, h4, h5⟩ := id hq
    simp only [cnt_tO, cnt_tW, cnt_tP, cnt_tA, cnt_tN, cnt_tI, cnt_tS, cnt1_1, cnt1_0, cnt2_1, cnt3_1, cnt5_1, cnt6_1, cnt8_1, nx_0, nx_1, nx_2, nx_3, nx_4, nx_5, nx_6, nxc_0, nxc_1, nxc_2, nxc_3, nxc_4, nxc_5]
    refine prP_lss (cndP_d (fun hlt => ?_) fun hge2 => ?_)
    · have hlt : q.1 < ops.length := by omega
      refine ixW_iv hlt (ldg_po hlt (ixW_iv (by omega) (ldg_an (by omega) ?_)))
      rw [sub_an (by omega)]
      refine impl_ShowEvent_c (by omega) (hf _) ?_
      refine prP_eqSd (cndP_d (fun he => ?_) fun he => ?_)
      · have : enc ops ans (q.1 + 1) = none := by rw [enc, h1]; exact if_pos he
        rw [enc_none this ops.length hlt] at h; exact h
      · refine apW_p rfl (by first | omega | (simp only [cnt_tO, cnt_tW, cnt_tP, cnt_tA, cnt_tN, cnt_tI, cnt_tS, cnt1_1, cnt1_0, cnt2_1, cnt3_1, cnt5_1, cnt6_1, cnt8_1, nx_0, nx_1, nx_2, nx_3, nx_4, nx_5, nx_6, nxc_0, nxc_1, nxc_2, nxc_3, nxc_4, nxc_5]; omega)) (prP_inc (by omega) ?_)
        have := hR _ (hq.next hlt he) (by simp only; omega)
        rw [← tS_snoc] at this
        exact this
    · have he : q.1 = ops.length := by omega
      rw [he] at h1
      rw [h1] at h
      exact impl_ShowLog_c (by omega) (fun i => by have := h5 i; omega) h
  · rw [encode, if_pos (by omega)] at h; exact h
theorem spec_Encode_c {ops : List Op5} {ans : List An} {K : J2} (hl : (ops.length : Int) ≤ 2 ^ 40) (hm : (ans.length : Int) ≤ 2 ^ 40) (hf : ∀ i, ((an ans i).freed.length : Int) < 2 ^ 62) (h : K [.string (encode ops ans)] []) : cl2 ⟨Try.prog, w0⟩ 26 spec_Encode.sg [] [tR tP ops, tR tA ans] K := by
  refine spec_Encode.cl2 ?_
  unfold spec_Encode.txt
  simp only [cnt_tO, cnt_tW, cnt_tP, cnt_tA, cnt_tN, cnt_tI, cnt_tS, cnt1_1, cnt1_0, cnt2_1, cnt3_1, cnt5_1, cnt6_1, cnt8_1, nx_0, nx_1, nx_2, nx_3, nx_4, nx_5, nx_6, nxc_0, nxc_1, nxc_2, nxc_3, nxc_4, nxc_5]
  repeat' (first | refine gE_x ?_ | refine gE_u ?_ | refine gP_u ?_ | refine gP_TT ?_ | refine gP_FF ?_ | refine gP_TF ?_ | refine gP_FT ?_ | refine gP_yt (by first | with_reducible assumption | omega) ?_ | refine gP_nt (by first | with_reducible assumption | omega) ?_ | refine gP_yf (by first | with_reducible assumption | omega) ?_ | refine gP_nf (by first | with_reducible assumption | omega) ?_ | refine gP_on (by with_reducible assumption) ?_ | refine gP_offt (by with_reducible assumption) ?_ | refine gP_offf (by with_reducible assumption) ?_ | refine pk_t (by with_reducible assumption) rfl ?_ | refine pk_f (by with_reducible assumption) rfl ?_ | refine pk_y (by first | with_reducible assumption | omega) rfl ?_ | refine pk_n (by first | with_reducible assumption | omega) rfl ?_ | refine pk_T rfl ?_ | refine pk_F rfl ?_ | refine cndP_T ?_ | refine cndP_F ?_ | refine cndP_yes (by first | with_reducible assumption | omega) ?_ | refine cndP_no (by first | with_reducible assumption | omega) ?_ | refine cndP_on (by with_reducible assumption) ?_ | refine cndP_off (by with_reducible assumption) ?_ | refine prP_lss ?_ | refine prP_leq ?_ | refine prP_gtr ?_ | refine prP_geq ?_ | refine prP_eqd ?_ | refine prP_ned ?_ | refine prP_notnd ?_ | refine prP_notd ?_ | refine prP_lnS ?_ | refine prP_inc (by omega) ?_ | refine prP_add ⟨by omega, by omega⟩ ?_ | refine prP_sub ⟨by omega, by omega⟩ ?_ | refine prP_addw ?_ | refine prP_subw ?_ | refine prP_rem (by omega) (by omega) ?_ | refine prP_quo (by omega) ⟨by omega, by omega⟩ (by omega) ?_ | refine prP_eqSd ?_ | refine prP_neSd ?_ | refine prP_catS (by first | omega | (simp only [ByteArray.size_append]; omega)) ?_ | refine prP_eqB ?_ | refine prP_neB ?_ | refine ixW_iv (by omega) ?_ | refine ixW_c (by omega) (by omega) ?_ | refine ldI (by omega) ?_ | refine ldS (by omega) ?_ | refine ldg_ob (by omega) ?_ | refine ldg_wk (by omega) ?_ | refine ldg_po (by omega) ?_ | refine ldg_an (by omega) ?_ | refine ldg_nd (by omega) ?_ | refine ldc_ob (by omega) (by decide) rfl ?_ | refine ldc_ob0 (by omega) rfl ?_ | refine ldc_wk (by omega) (by decide) rfl ?_ | refine ldc_wk0 (by omega) rfl ?_ | refine ldc_po (by omega) (by decide) rfl ?_ | refine ldc_po0 (by omega) rfl ?_ | refine ldc_an (by omega) (by decide) rfl ?_ | refine ldc_an0 (by omega) rfl ?_ | refine ldc_nd (by omega) (by decide) rfl ?_ | refine ldc_nd0 (by omega) rfl ?_ | refine ldf_ob (by omega) (by omega) ?_ | refine ldl_ob (by omega) ?_ | refine ldf_nd (by omega) (by omega) ?_ | refine ldl_nd (by omega) ?_ | refine ldf_an (by omega) (by omega) ?_ | refine ldl_an (by omega) ?_ | refine ldg_tR (by omega) rfl rfl ?_ | refine ldc_tI (by omega) ?_ | refine ldc_tS (by omega) ?_ | refine ldc_tR (by omega) (by decide) rfl ?_ | refine ldc_tR0 (by omega) rfl ?_ | refine apW_p (by first | exact flat_tI _ | exact flat_tS _ | exact flat_tW _ | exact flat_tP _ | rfl) (by omega) ?_ | refine apW_n (by omega) ?_ | refine cndP_d (fun _ => ?_) (fun _ => ?_) | refine pk_sd rfl rfl (fun _ => ?_) (fun _ => ?_) | refine pk_sb rfl rfl (fun _ => ?_) (fun _ => ?_) | refine gP_dt (fun _ => ?_) (fun _ => ?_) | refine gP_df (fun _ => ?_) (fun _ => ?_) | refine cndP_i (fun _ => ?_) (fun _ => ?_) | refine gP_ct (fun _ => ?_) (fun _ => ?_) | refine gP_cf (fun _ => ?_) (fun _ => ?_) | refine prP_not ?_ | simp only [cnt_tO, cnt_tW, cnt_tP, cnt_tA, cnt_tN, cnt_tI, cnt_tS, cnt1_1, cnt1_0, cnt2_1, cnt3_1, cnt5_1, cnt6_1, cnt8_1, nx_0, nx_1, nx_2, nx_3, nx_4, nx_5, nx_6, nxc_0, nxc_1, nxc_2, nxc_3, nxc_4, nxc_5])
  · rw [encode, if_pos (by omega)] at h; exact h
  · rename_i hne hge
    rw [encode, if_neg (by omega)] at h
    refine loopP_wf (α := Nat × List ByteArray × Int × List ByteArray) (fun q => [iv q.1, I q.2.2.1]) (fun q => [tS q.2.1, tS q.2.2.2]) (fun q => ops.length - q.1) (EncI ops ans) (0, [], 0, []) rfl rfl ⟨rfl, Nat.zero_le _, rfl, Nat.le_refl _, fun i => (Nat.zero_le 127 : (gS [] i).size ≤ 127)⟩ (fun R q hq hR => ?_)
    obtain ⟨h1, h2, h3, h4, h5⟩ := id hq
    simp only [cnt_tO, cnt_tW, cnt_tP, cnt_tA, cnt_tN, cnt_tI, cnt_tS, cnt1_1, cnt1_0, cnt2_1, cnt3_1, cnt5_1, cnt6_1, cnt8_1, nx_0, nx_1, nx_2, nx_3, nx_4, nx_5, nx_6, nxc_0, nxc_1, nxc_2, nxc_3, nxc_4, nxc_5]
    refine prP_lss (cndP_d (fun hlt => ?_) fun hge2 => ?_)
    · have hlt : q.1 < ops.length := by omega
      refine ixW_iv hlt (ldg_po hlt (ixW_iv (by omega) (ldg_an (by omega) ?_)))
      rw [sub_an (by omega)]
      refine spec_ShowEvent_c (by omega) (hf _) ?_
      refine prP_eqSd (cndP_d (fun he => ?_) fun he => ?_)
      · have : enc ops ans (q.1 + 1) = none := by rw [enc, h1]; exact if_pos he
        rw [enc_none this ops.length hlt] at h; exact h
      · refine apW_p rfl (by first | omega | (simp only [cnt_tO, cnt_tW, cnt_tP, cnt_tA, cnt_tN, cnt_tI, cnt_tS, cnt1_1, cnt1_0, cnt2_1, cnt3_1, cnt5_1, cnt6_1, cnt8_1, nx_0, nx_1, nx_2, nx_3, nx_4, nx_5, nx_6, nxc_0, nxc_1, nxc_2, nxc_3, nxc_4, nxc_5]; omega)) (prP_inc (by omega) ?_)
        have := hR _ (hq.next hlt he) (by simp only; omega)
        rw [← tS_snoc] at this
        exact this
    · have he : q.1 = ops.length := by omega
      rw [he] at h1
      rw [h1] at h
      exact spec_ShowLog_c (by omega) (fun i => by have := h5 i; omega) h
  · rw [encode, if_pos (by omega)] at h; exact h
end Go.Proofs.Ytnhicpkhkaihoaa.P
