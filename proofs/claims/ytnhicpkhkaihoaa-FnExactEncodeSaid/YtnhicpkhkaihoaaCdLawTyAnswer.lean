/- What the laws' small functions make of rows of Answer. -/
import Derived.Test.YtnhicpkhkaihoaaCdLawTyOp
namespace Go.Proofs.Ytnhicpkhkaihoaa.P
open Go Go.Proofs.Ytnhicpkhkaihoaa Go.Proofs.Ytnhicpkhkaihoaa.Eng
set_option linter.unusedVariables false
set_option linter.unusedSimpArgs false
attribute [local irreducible] prP gP gE gF cndP ixW ldc ldg ldl stc stg scW mkW apW loopP cl2 joinP pre2
variable {w0 : World}

theorem sb_An_freed {l : List An} {i : Nat} (hi : i < l.length) : subN (tR tA l) [natOf (iv i) * 3 + 2] = tI l[i].freed := subN_tR hi (by decide) rfl
theorem laws_eqAnswer_c {o : An} {K : J2} (h_freed : (o.freed.length : Int) < 2 ^ 62) (h : K [.bool true] []) : cl2 ⟨Try.prog, w0⟩ 37 laws_eqAnswer.sg [I o.code, I o.val, I o.code, I o.val] [tI o.freed, tI o.freed] K := by
  refine laws_eqAnswer.cl2 ?_
  unfold laws_eqAnswer.txt
  repeat' (first | refine laws_eqIntS_c h_freed ?_ | refine cndP_no (fun h => h rfl) ?_ | refine gE_x ?_ | refine gE_u ?_ | refine gP_u ?_ | refine gP_TT ?_ | refine gP_FF ?_ | refine gP_TF ?_ | refine gP_FT ?_ | refine gP_yt (by first | with_reducible assumption | omega) ?_ | refine gP_nt (by first | with_reducible assumption | omega) ?_ | refine gP_yf (by first | with_reducible assumption | omega) ?_ | refine gP_nf (by first | with_reducible assumption | omega) ?_ | refine gP_on (by with_reducible assumption) ?_ | refine gP_offt (by with_reducible assumption) ?_ | refine gP_offf (by with_reducible assumption) ?_ | refine pk_t (by with_reducible assumption) rfl ?_ | refine pk_f (by with_reducible assumption) rfl ?_ | refine pk_y (by first | with_reducible assumption | omega) rfl ?_ | refine pk_n (by first | with_reducible assumption | omega) rfl ?_ | refine pk_T rfl ?_ | refine pk_F rfl ?_ | refine cndP_T ?_ | refine cndP_F ?_ | refine cndP_yes (by first | with_reducible assumption | omega) ?_ | refine cndP_no (by first | with_reducible assumption | omega) ?_ | refine cndP_on (by with_reducible assumption) ?_ | refine cndP_off (by with_reducible assumption) ?_ | refine prP_lss ?_ | refine prP_leq ?_ | refine prP_gtr ?_ | refine prP_geq ?_ | refine prP_eqd ?_ | refine prP_ned ?_ | refine prP_notnd ?_ | refine prP_notd ?_ | refine prP_lnS ?_ | refine prP_inc (by omega) ?_ | refine prP_add ⟨by omega, by omega⟩ ?_ | refine prP_sub ⟨by omega, by omega⟩ ?_ | refine prP_addw ?_ | refine prP_subw ?_ | refine prP_rem (by omega) (by omega) ?_ | refine prP_quo (by omega) ⟨by omega, by omega⟩ (by omega) ?_ | refine prP_eqSd ?_ | refine prP_neSd ?_ | refine prP_eqB ?_ | refine prP_neB ?_ | refine ixW_iv (by omega) ?_ | refine ixW_c (by omega) (by omega) ?_ | refine ldI (by omega) ?_ | refine ldS (by omega) ?_ | refine ldg_ob (by omega) ?_ | refine ldg_wk (by omega) ?_ | refine ldg_po (by omega) ?_ | refine ldg_an (by omega) ?_ | refine ldg_nd (by omega) ?_ | refine ldc_ob (by omega) (by decide) rfl ?_ | refine ldc_ob0 (by omega) rfl ?_ | refine ldc_wk (by omega) (by decide) rfl ?_ | refine ldc_wk0 (by omega) rfl ?_ | refine ldc_po (by omega) (by decide) rfl ?_ | refine ldc_po0 (by omega) rfl ?_ | refine ldc_an (by omega) (by decide) rfl ?_ | refine ldc_an0 (by omega) rfl ?_ | refine ldc_nd (by omega) (by decide) rfl ?_ | refine ldc_nd0 (by omega) rfl ?_ | refine ldf_ob (by omega) (by omega) ?_ | refine ldl_ob (by omega) ?_ | refine ldf_nd (by omega) (by omega) ?_ | refine ldl_nd (by omega) ?_ | refine ldf_an (by omega) (by omega) ?_ | refine ldl_an (by omega) ?_ | refine ldg_tR (by omega) rfl rfl ?_ | refine ldc_tI (by omega) ?_ | refine ldc_tS (by omega) ?_ | refine ldc_tR (by omega) (by decide) rfl ?_ | refine ldc_tR0 (by omega) rfl ?_ | refine apW_p (by first | exact flat_tI _ | exact flat_tS _ | exact flat_tW _ | exact flat_tP _ | rfl) (by omega) ?_ | refine apW_n (by omega) ?_ | refine cndP_d (fun _ => ?_) (fun _ => ?_) | refine pk_sd rfl rfl (fun _ => ?_) (fun _ => ?_) | refine pk_sb rfl rfl (fun _ => ?_) (fun _ => ?_) | refine gP_dt (fun _ => ?_) (fun _ => ?_) | refine gP_df (fun _ => ?_) (fun _ => ?_) | refine cndP_i (fun _ => ?_) (fun _ => ?_) | refine gP_ct (fun _ => ?_) (fun _ => ?_) | refine gP_cf (fun _ => ?_) (fun _ => ?_) | refine prP_not ?_ | simp only [cnt_tO, cnt_tW, cnt_tP, cnt_tA, cnt_tN, cnt_tI, cnt_tS, cnt1_1, cnt1_0, cnt2_1, cnt3_1, cnt5_1, cnt6_1, cnt8_1, nx_0, nx_1, nx_2, nx_3, nx_4, nx_5, nx_6, nxc_0, nxc_1, nxc_2, nxc_3, nxc_4, nxc_5])
  exact h
theorem laws_eqAnswerS_c {l : List An} {K : J2} (hl : (l.length : Int) < 2 ^ 62) (hs : ∀ o ∈ l, (o.freed.length : Int) < 2 ^ 62) (h : K [.bool true] []) : cl2 ⟨Try.prog, w0⟩ 31 laws_eqAnswerS.sg [] [tR tA l, tR tA l] K := by
  refine laws_eqAnswerS.cl2 ?_
  unfold laws_eqAnswerS.txt
  simp only [cnt_tO, cnt_tW, cnt_tP, cnt_tA, cnt_tN, cnt_tI, cnt_tS, cnt1_1, cnt1_0, cnt2_1, cnt3_1, cnt5_1, cnt6_1, cnt8_1, nx_0, nx_1, nx_2, nx_3, nx_4, nx_5, nx_6, nxc_0, nxc_1, nxc_2, nxc_3, nxc_4, nxc_5]
  refine prP_ned (cndP_no (fun h => h rfl) ?_)
  refine loopP_from (fun i => [iv i]) (fun _ => []) l.length (fun _ => True) rfl rfl trivial (fun R i hi hP hR => ?_)
  refine prP_lss (cndP_d (fun hlt => ?_) fun hge => ?_)
  · have hlt : i < l.length := by omega
    refine ixW_iv hlt (ldg_tR hlt rfl rfl (ixW_iv hlt (ldg_tR hlt rfl rfl ?_)))
    rw [sb_An_freed hlt]
    refine laws_eqAnswer_c (hs _ (List.getElem_mem hlt)) ?_
    repeat' (first | refine gE_x ?_ | refine gE_u ?_ | refine gP_u ?_ | refine gP_TT ?_ | refine gP_FF ?_ | refine gP_TF ?_ | refine gP_FT ?_ | refine gP_yt (by first | with_reducible assumption | omega) ?_ | refine gP_nt (by first | with_reducible assumption | omega) ?_ | refine gP_yf (by first | with_reducible assumption | omega) ?_ | refine gP_nf (by first | with_reducible assumption | omega) ?_ | refine gP_on (by with_reducible assumption) ?_ | refine gP_offt (by with_reducible assumption) ?_ | refine gP_offf (by with_reducible assumption) ?_ | refine pk_t (by with_reducible assumption) rfl ?_ | refine pk_f (by with_reducible assumption) rfl ?_ | refine pk_y (by first | with_reducible assumption | omega) rfl ?_ | refine pk_n (by first | with_reducible assumption | omega) rfl ?_ | refine pk_T rfl ?_ | refine pk_F rfl ?_ | refine cndP_T ?_ | refine cndP_F ?_ | refine cndP_yes (by first | with_reducible assumption | omega) ?_ | refine cndP_no (by first | with_reducible assumption | omega) ?_ | refine cndP_on (by with_reducible assumption) ?_ | refine cndP_off (by with_reducible assumption) ?_ | refine prP_lss ?_ | refine prP_leq ?_ | refine prP_gtr ?_ | refine prP_geq ?_ | refine prP_eqd ?_ | refine prP_ned ?_ | refine prP_notnd ?_ | refine prP_notd ?_ | refine prP_lnS ?_ | refine prP_inc (by omega) ?_ | refine prP_add ⟨by omega, by omega⟩ ?_ | refine prP_sub ⟨by omega, by omega⟩ ?_ | refine prP_addw ?_ | refine prP_subw ?_ | refine prP_rem (by omega) (by omega) ?_ | refine prP_quo (by omega) ⟨by omega, by omega⟩ (by omega) ?_ | refine prP_eqSd ?_ | refine prP_neSd ?_ | refine prP_eqB ?_ | refine prP_neB ?_ | refine ixW_iv (by omega) ?_ | refine ixW_c (by omega) (by omega) ?_ | refine ldI (by omega) ?_ | refine ldS (by omega) ?_ | refine ldg_ob (by omega) ?_ | refine ldg_wk (by omega) ?_ | refine ldg_po (by omega) ?_ | refine ldg_an (by omega) ?_ | refine ldg_nd (by omega) ?_ | refine ldc_ob (by omega) (by decide) rfl ?_ | refine ldc_ob0 (by omega) rfl ?_ | refine ldc_wk (by omega) (by decide) rfl ?_ | refine ldc_wk0 (by omega) rfl ?_ | refine ldc_po (by omega) (by decide) rfl ?_ | refine ldc_po0 (by omega) rfl ?_ | refine ldc_an (by omega) (by decide) rfl ?_ | refine ldc_an0 (by omega) rfl ?_ | refine ldc_nd (by omega) (by decide) rfl ?_ | refine ldc_nd0 (by omega) rfl ?_ | refine ldf_ob (by omega) (by omega) ?_ | refine ldl_ob (by omega) ?_ | refine ldf_nd (by omega) (by omega) ?_ | refine ldl_nd (by omega) ?_ | refine ldf_an (by omega) (by omega) ?_ | refine ldl_an (by omega) ?_ | refine ldg_tR (by omega) rfl rfl ?_ | refine ldc_tI (by omega) ?_ | refine ldc_tS (by omega) ?_ | refine ldc_tR (by omega) (by decide) rfl ?_ | refine ldc_tR0 (by omega) rfl ?_ | refine apW_p (by first | exact flat_tI _ | exact flat_tS _ | exact flat_tW _ | exact flat_tP _ | rfl) (by omega) ?_ | refine apW_n (by omega) ?_ | refine cndP_d (fun _ => ?_) (fun _ => ?_) | refine pk_sd rfl rfl (fun _ => ?_) (fun _ => ?_) | refine pk_sb rfl rfl (fun _ => ?_) (fun _ => ?_) | refine gP_dt (fun _ => ?_) (fun _ => ?_) | refine gP_df (fun _ => ?_) (fun _ => ?_) | refine cndP_i (fun _ => ?_) (fun _ => ?_) | refine gP_ct (fun _ => ?_) (fun _ => ?_) | refine gP_cf (fun _ => ?_) (fun _ => ?_) | refine prP_not ?_ | simp only [cnt_tO, cnt_tW, cnt_tP, cnt_tA, cnt_tN, cnt_tI, cnt_tS, cnt1_1, cnt1_0, cnt2_1, cnt3_1, cnt5_1, cnt6_1, cnt8_1, nx_0, nx_1, nx_2, nx_3, nx_4, nx_5, nx_6, nxc_0, nxc_1, nxc_2, nxc_3, nxc_4, nxc_5])
    exact hR hlt trivial
  · exact h
theorem laws_toAnswer_c {o : An} {K : J2} (h_freed : (o.freed.length : Int) < 2 ^ 40) (h : K [I o.code, I o.val] [tI o.freed]) : cl2 ⟨Try.prog, w0⟩ 95 laws_toAnswer.sg [I o.code, I o.val] [tI o.freed] K :=
  laws_toAnswer.cl2 (laws_toIntS_c h_freed h)
theorem laws_toAnswerS_c {l : List An} {K : J2} (hl : (l.length : Int) < 2 ^ 40) (hs : ∀ o ∈ l, (o.freed.length : Int) < 2 ^ 40) (h : K [] [tR tA l]) : cl2 ⟨Try.prog, w0⟩ 28 laws_toAnswerS.sg [] [tR tA l] K := by
  refine laws_toAnswerS.cl2 ?_
  unfold laws_toAnswerS.txt
  simp only [cnt_tO, cnt_tW, cnt_tP, cnt_tA, cnt_tN, cnt_tI, cnt_tS, cnt1_1, cnt1_0, cnt2_1, cnt3_1, cnt5_1, cnt6_1, cnt8_1, nx_0, nx_1, nx_2, nx_3, nx_4, nx_5, nx_6, nxc_0, nxc_1, nxc_2, nxc_3, nxc_4, nxc_5]
  refine mkW_i (by omega) ?_
  refine loopP_from (fun i => [iv i]) (fun i => [tR tA (l.take i ++ List.replicate (l.length - i) (⟨0, 0, []⟩ : An))]) l.length (fun _ => True) rfl ?_ trivial (fun R i hi hP hR => ?_)
  · rw [natOf_iv]; exact congrArg (fun x => [x]) ((repT_tR (f := tA) l.length (⟨0, 0, []⟩ : An)).trans (by simp))
  have hln : (l.take i ++ List.replicate (l.length - i) (⟨0, 0, []⟩ : An)).length = l.length := by simp; omega
  simp only [cnt_tO, cnt_tW, cnt_tP, cnt_tA, cnt_tN, cnt_tI, cnt_tS, cnt1_1, cnt1_0, cnt2_1, cnt3_1, cnt5_1, cnt6_1, cnt8_1, nx_0, nx_1, nx_2, nx_3, nx_4, nx_5, nx_6, nxc_0, nxc_1, nxc_2, nxc_3, nxc_4, nxc_5]
  refine prP_lss (cndP_d (fun hlt => ?_) fun hge => ?_)
  · have hlt : i < l.length := by omega
    replace hR := hR hlt trivial
    rw [copy_step hlt] at hR
    refine ixW_iv hlt (ldg_tR hlt rfl rfl ?_)
    rw [sb_An_freed hlt]
    refine laws_toAnswer_c (o := l[i]) (hs _ (List.getElem_mem hlt)) ?_
    rw [hln]
    refine ixW_iv hlt (stg_tR (by rw [hln]; exact hlt) (y := l[i]) rfl (prP_inc (by omega) ?_))
    exact hR
  · have : i = l.length := by omega
    subst this
    simpa using h
end Go.Proofs.Ytnhicpkhkaihoaa.P
