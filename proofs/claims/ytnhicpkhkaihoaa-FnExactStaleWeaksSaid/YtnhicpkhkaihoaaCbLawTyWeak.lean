/- What the laws' small functions make of rows of Weak. -/
import Derived.Test.YtnhicpkhkaihoaaCbLawTyObj
namespace Go.Proofs.Ytnhicpkhkaihoaa.P
open Go Go.Proofs.Ytnhicpkhkaihoaa Go.Proofs.Ytnhicpkhkaihoaa.Eng
set_option linter.unusedVariables false
set_option linter.unusedSimpArgs false
attribute [local irreducible] prP gP gE gF cndP ixW ldc ldg ldl stc stg scW mkW apW loopP cl2 joinP pre2
variable {w0 : World}
def mkWk (k : Int) (o : Wk) : Wk := ⟨decide ((k) % 3 = 0), k + 1⟩
def szWk (o : Wk) : Int := 2
theorem szWk_pos (o : Wk) : 0 ≤ szWk o := by unfold szWk; omega
theorem stS_Wk_used {cur : List Wk} {i : Nat} {y : Wk} {v : Bool} {K : List T → Prop} (hi : i < cur.length) (h : K (tR tW (cur.set i { y with used := v }))) : stc (tR tW (cur.set i y)) [] (natOf (iv i) * 2) (.bool v) K := stc_tRs0 hi rfl rfl h
theorem stS_Wk_target {cur : List Wk} {i : Nat} {y : Wk} {v : Int} {K : List T → Prop} (hi : i < cur.length) (h : K (tR tW (cur.set i { y with target := v }))) : stc (tR tW (cur.set i y)) [] (natOf (iv i) * 2 + 1) (I v) K := stc_tRs hi (by decide) rfl rfl h
theorem laws_eqWeak_c {o : Wk} {K : J2} (h : K [.bool true] []) : cl2 ⟨Try.prog, w0⟩ 159 laws_eqWeak.sg [.bool o.used, I o.target, .bool o.used, I o.target] [] K := by
  refine laws_eqWeak.cl2 ?_
  unfold laws_eqWeak.txt
  repeat' (first | refine cndP_no (fun h => h rfl) ?_ | refine gE_x ?_ | refine gE_u ?_ | refine gP_u ?_ | refine gP_TT ?_ | refine gP_FF ?_ | refine gP_TF ?_ | refine gP_FT ?_ | refine gP_yt (by with_reducible assumption) ?_ | refine gP_nt (by with_reducible assumption) ?_ | refine gP_yf (by with_reducible assumption) ?_ | refine gP_nf (by with_reducible assumption) ?_ | refine gP_on (by with_reducible assumption) ?_ | refine gP_offt (by with_reducible assumption) ?_ | refine gP_offf (by with_reducible assumption) ?_ | refine pk_t (by with_reducible assumption) rfl ?_ | refine pk_f (by with_reducible assumption) rfl ?_ | refine pk_y (by with_reducible assumption) rfl ?_ | refine pk_n (by with_reducible assumption) rfl ?_ | refine pk_T rfl ?_ | refine pk_F rfl ?_ | refine cndP_T ?_ | refine cndP_F ?_ | refine cndP_yes (by first | with_reducible assumption | omega) ?_ | refine cndP_no (by first | with_reducible assumption | omega) ?_ | refine cndP_on (by with_reducible assumption) ?_ | refine cndP_off (by with_reducible assumption) ?_ | refine prP_lss ?_ | refine prP_leq ?_ | refine prP_gtr ?_ | refine prP_geq ?_ | refine prP_eqd ?_ | refine prP_ned ?_ | refine prP_notnd ?_ | refine prP_notd ?_ | refine prP_lnS ?_ | refine prP_inc (by omega) ?_ | refine prP_add ⟨by omega, by omega⟩ ?_ | refine prP_sub ⟨by omega, by omega⟩ ?_ | refine prP_addw ?_ | refine prP_subw ?_ | refine prP_rem (by omega) (by omega) ?_ | refine prP_quo (by omega) ⟨by omega, by omega⟩ (by omega) ?_ | refine prP_eqSd ?_ | refine prP_neSd ?_ | refine prP_eqB ?_ | refine prP_neB ?_ | refine ixW_iv (by omega) ?_ | refine ixW_c (by omega) (by omega) ?_ | refine ldI (by omega) ?_ | refine ldS (by omega) ?_ | refine ldg_ob (by omega) ?_ | refine ldg_wk (by omega) ?_ | refine ldg_po (by omega) ?_ | refine ldg_an (by omega) ?_ | refine ldg_nd (by omega) ?_ | refine ldc_ob (by omega) (by decide) rfl ?_ | refine ldc_ob0 (by omega) rfl ?_ | refine ldc_wk (by omega) (by decide) rfl ?_ | refine ldc_wk0 (by omega) rfl ?_ | refine ldc_po (by omega) (by decide) rfl ?_ | refine ldc_po0 (by omega) rfl ?_ | refine ldc_an (by omega) (by decide) rfl ?_ | refine ldc_an0 (by omega) rfl ?_ | refine ldc_nd (by omega) (by decide) rfl ?_ | refine ldc_nd0 (by omega) rfl ?_ | refine ldf_ob (by omega) (by omega) ?_ | refine ldl_ob (by omega) ?_ | refine ldf_nd (by omega) (by omega) ?_ | refine ldl_nd (by omega) ?_ | refine ldf_an (by omega) (by omega) ?_ | refine ldl_an (by omega) ?_ | refine ldg_tR (by omega) rfl rfl ?_ | refine ldc_tI (by omega) ?_ | refine ldc_tS (by omega) ?_ | refine ldc_tR (by omega) (by decide) rfl ?_ | refine ldc_tR0 (by omega) rfl ?_ | refine apW_p (by first | exact flat_tI _ | exact flat_tS _ | exact flat_tW _ | exact flat_tP _ | rfl) (by omega) ?_ | refine apW_n (by omega) ?_ | refine cndP_d (fun _ => ?_) (fun _ => ?_) | refine pk_sd rfl rfl (fun _ => ?_) (fun _ => ?_) | refine pk_sb rfl rfl (fun _ => ?_) (fun _ => ?_) | refine gP_dt (fun _ => ?_) (fun _ => ?_) | refine gP_df (fun _ => ?_) (fun _ => ?_) | refine cndP_i (fun _ => ?_) (fun _ => ?_) | refine gP_ct (fun _ => ?_) (fun _ => ?_) | refine gP_cf (fun _ => ?_) (fun _ => ?_) | refine prP_not ?_ | simp only [cnt_tO, cnt_tW, cnt_tP, cnt_tA, cnt_tN, cnt_tI, cnt_tS, cnt1_1, cnt1_0, cnt2_1, cnt3_1, cnt5_1, cnt6_1, cnt8_1, nx_0, nx_1, nx_2, nx_3, nx_4, nx_5, nx_6, nxc_0, nxc_1, nxc_2, nxc_3, nxc_4, nxc_5])
  exact h
theorem laws_eqWeakS_c {l : List Wk} {K : J2} (hl : (l.length : Int) < 2 ^ 62) (h : K [.bool true] []) : cl2 ⟨Try.prog, w0⟩ 86 laws_eqWeakS.sg [] [tR tW l, tR tW l] K := by
  refine laws_eqWeakS.cl2 ?_
  unfold laws_eqWeakS.txt
  simp only [cnt_tO, cnt_tW, cnt_tP, cnt_tA, cnt_tN, cnt_tI, cnt_tS, cnt1_1, cnt1_0, cnt2_1, cnt3_1, cnt5_1, cnt6_1, cnt8_1, nx_0, nx_1, nx_2, nx_3, nx_4, nx_5, nx_6, nxc_0, nxc_1, nxc_2, nxc_3, nxc_4, nxc_5]
  refine prP_ned (cndP_no (fun h => h rfl) ?_)
  refine loopP_from (fun i => [iv i]) (fun _ => []) l.length (fun _ => True) rfl rfl trivial (fun R i hi hP hR => ?_)
  refine prP_lss (cndP_d (fun hlt => ?_) fun hge => ?_)
  · have hlt : i < l.length := by omega
    refine ixW_iv hlt (ldg_tR hlt rfl rfl (ixW_iv hlt (ldg_tR hlt rfl rfl ?_)))
    refine laws_eqWeak_c ?_
    repeat' (first | refine gE_x ?_ | refine gE_u ?_ | refine gP_u ?_ | refine gP_TT ?_ | refine gP_FF ?_ | refine gP_TF ?_ | refine gP_FT ?_ | refine gP_yt (by with_reducible assumption) ?_ | refine gP_nt (by with_reducible assumption) ?_ | refine gP_yf (by with_reducible assumption) ?_ | refine gP_nf (by with_reducible assumption) ?_ | refine gP_on (by with_reducible assumption) ?_ | refine gP_offt (by with_reducible assumption) ?_ | refine gP_offf (by with_reducible assumption) ?_ | refine pk_t (by with_reducible assumption) rfl ?_ | refine pk_f (by with_reducible assumption) rfl ?_ | refine pk_y (by with_reducible assumption) rfl ?_ | refine pk_n (by with_reducible assumption) rfl ?_ | refine pk_T rfl ?_ | refine pk_F rfl ?_ | refine cndP_T ?_ | refine cndP_F ?_ | refine cndP_yes (by first | with_reducible assumption | omega) ?_ | refine cndP_no (by first | with_reducible assumption | omega) ?_ | refine cndP_on (by with_reducible assumption) ?_ | refine cndP_off (by with_reducible assumption) ?_ | refine prP_lss ?_ | refine prP_leq ?_ | refine prP_gtr ?_ | refine prP_geq ?_ | refine prP_eqd ?_ | refine prP_ned ?_ | refine prP_notnd ?_ | refine prP_notd ?_ | refine prP_lnS ?_ | refine prP_inc (by omega) ?_ | refine prP_add ⟨by omega, by omega⟩ ?_ | refine prP_sub ⟨by omega, by omega⟩ ?_ | refine prP_addw ?_ | refine prP_subw ?_ | refine prP_rem (by omega) (by omega) ?_ | refine prP_quo (by omega) ⟨by omega, by omega⟩ (by omega) ?_ | refine prP_eqSd ?_ | refine prP_neSd ?_ | refine prP_eqB ?_ | refine prP_neB ?_ | refine ixW_iv (by omega) ?_ | refine ixW_c (by omega) (by omega) ?_ | refine ldI (by omega) ?_ | refine ldS (by omega) ?_ | refine ldg_ob (by omega) ?_ | refine ldg_wk (by omega) ?_ | refine ldg_po (by omega) ?_ | refine ldg_an (by omega) ?_ | refine ldg_nd (by omega) ?_ | refine ldc_ob (by omega) (by decide) rfl ?_ | refine ldc_ob0 (by omega) rfl ?_ | refine ldc_wk (by omega) (by decide) rfl ?_ | refine ldc_wk0 (by omega) rfl ?_ | refine ldc_po (by omega) (by decide) rfl ?_ | refine ldc_po0 (by omega) rfl ?_ | refine ldc_an (by omega) (by decide) rfl ?_ | refine ldc_an0 (by omega) rfl ?_ | refine ldc_nd (by omega) (by decide) rfl ?_ | refine ldc_nd0 (by omega) rfl ?_ | refine ldf_ob (by omega) (by omega) ?_ | refine ldl_ob (by omega) ?_ | refine ldf_nd (by omega) (by omega) ?_ | refine ldl_nd (by omega) ?_ | refine ldf_an (by omega) (by omega) ?_ | refine ldl_an (by omega) ?_ | refine ldg_tR (by omega) rfl rfl ?_ | refine ldc_tI (by omega) ?_ | refine ldc_tS (by omega) ?_ | refine ldc_tR (by omega) (by decide) rfl ?_ | refine ldc_tR0 (by omega) rfl ?_ | refine apW_p (by first | exact flat_tI _ | exact flat_tS _ | exact flat_tW _ | exact flat_tP _ | rfl) (by omega) ?_ | refine apW_n (by omega) ?_ | refine cndP_d (fun _ => ?_) (fun _ => ?_) | refine pk_sd rfl rfl (fun _ => ?_) (fun _ => ?_) | refine pk_sb rfl rfl (fun _ => ?_) (fun _ => ?_) | refine gP_dt (fun _ => ?_) (fun _ => ?_) | refine gP_df (fun _ => ?_) (fun _ => ?_) | refine cndP_i (fun _ => ?_) (fun _ => ?_) | refine gP_ct (fun _ => ?_) (fun _ => ?_) | refine gP_cf (fun _ => ?_) (fun _ => ?_) | refine prP_not ?_ | simp only [cnt_tO, cnt_tW, cnt_tP, cnt_tA, cnt_tN, cnt_tI, cnt_tS, cnt1_1, cnt1_0, cnt2_1, cnt3_1, cnt5_1, cnt6_1, cnt8_1, nx_0, nx_1, nx_2, nx_3, nx_4, nx_5, nx_6, nxc_0, nxc_1, nxc_2, nxc_3, nxc_4, nxc_5])
    exact hR hlt trivial
  · exact h
theorem laws_toWeak_c {o : Wk} {K : J2} (h : K [.bool o.used, I o.target] []) : cl2 ⟨Try.prog, w0⟩ 156 laws_toWeak.sg [.bool o.used, I o.target] [] K :=
  laws_toWeak.cl2 h
theorem laws_toWeakS_c {l : List Wk} {K : J2} (hl : (l.length : Int) < 2 ^ 40) (h : K [] [tR tW l]) : cl2 ⟨Try.prog, w0⟩ 81 laws_toWeakS.sg [] [tR tW l] K := by
  refine laws_toWeakS.cl2 ?_
  unfold laws_toWeakS.txt
  simp only [cnt_tO, cnt_tW, cnt_tP, cnt_tA, cnt_tN, cnt_tI, cnt_tS, cnt1_1, cnt1_0, cnt2_1, cnt3_1, cnt5_1, cnt6_1, cnt8_1, nx_0, nx_1, nx_2, nx_3, nx_4, nx_5, nx_6, nxc_0, nxc_1, nxc_2, nxc_3, nxc_4, nxc_5]
  refine mkW_i (by omega) ?_
  refine loopP_from (fun i => [iv i]) (fun i => [tR tW (l.take i ++ List.replicate (l.length - i) (⟨false, 0⟩ : Wk))]) l.length (fun _ => True) rfl ?_ trivial (fun R i hi hP hR => ?_)
  · rw [natOf_iv]; exact congrArg (fun x => [x]) ((repT_tR (f := tW) l.length (⟨false, 0⟩ : Wk)).trans (by simp))
  have hln : (l.take i ++ List.replicate (l.length - i) (⟨false, 0⟩ : Wk)).length = l.length := by simp; omega
  simp only [cnt_tO, cnt_tW, cnt_tP, cnt_tA, cnt_tN, cnt_tI, cnt_tS, cnt1_1, cnt1_0, cnt2_1, cnt3_1, cnt5_1, cnt6_1, cnt8_1, nx_0, nx_1, nx_2, nx_3, nx_4, nx_5, nx_6, nxc_0, nxc_1, nxc_2, nxc_3, nxc_4, nxc_5]
  refine prP_lss (cndP_d (fun hlt => ?_) fun hge => ?_)
  · have hlt : i < l.length := by omega
    replace hR := hR hlt trivial
    rw [copy_step hlt] at hR
    refine ixW_iv hlt (ldg_tR hlt rfl rfl ?_)
    refine laws_toWeak_c (o := l[i]) ?_
    rw [hln]
    refine ixW_iv hlt (stg_tR (by rw [hln]; exact hlt) (y := l[i]) rfl (prP_inc (by omega) ?_))
    exact hR
  · have : i = l.length := by omega
    subst this
    simpa using h
theorem laws_markWeakS_c {k : Int} {l : List Wk} {K : J2} (hl : (l.length : Int) < 2 ^ 60) (hk : 0 ≤ k) (hb : k + szL szWk l < 2 ^ 60) (h : K [I (k + szL szWk l)] [tR tW (mkL mkWk szWk k l)]) : cl2 ⟨Try.prog, w0⟩ 89 laws_markWeakS.sg [I k] [tR tW l] K := by
  refine laws_markWeakS.cl2 ?_
  unfold laws_markWeakS.txt
  refine loopP_from (fun i => [I (k + szL szWk (l.take i)), iv i]) (fun i => [tR tW (mid mkWk szWk k l i)]) l.length (fun _ => True) (by simp [szL, iv_eq]) (by rw [mid_0]) trivial (fun R i hi hP hR => ?_)
  simp only [cnt_tO, cnt_tW, cnt_tP, cnt_tA, cnt_tN, cnt_tI, cnt_tS, cnt1_1, cnt1_0, cnt2_1, cnt3_1, cnt5_1, cnt6_1, cnt8_1, nx_0, nx_1, nx_2, nx_3, nx_4, nx_5, nx_6, nxc_0, nxc_1, nxc_2, nxc_3, nxc_4, nxc_5]
  rw [mid_len hi]
  refine prP_lss (cndP_d (fun hlt => ?_) fun hge => ?_)
  · have hlt : i < l.length := by omega
    have hs := szL_at szWk_pos hlt
    have h0 := szL_pos szWk_pos (l.take i)
    replace hR := hR hlt trivial
    rw [szL_succ hlt, ← mid_set hlt] at hR
    have hln := mid_len (mk := mkWk) (sz := szWk) (k := k) hi
    have hg := mid_get (mk := mkWk) (sz := szWk) (k := k) hlt (by omega)
    have hsm := tR_same (f := tW) (cur := mid mkWk szWk k l i) (i := i) (by omega)
    rw [hg] at hsm
    rw [hsm]
    clear hg hsm
    generalize mid mkWk szWk k l i = cur at hln hR ⊢
    generalize hx : l[i] = o at hR hs ⊢
    generalize szL szWk (l.take i) = q at hR hs h0 ⊢
    have hzz : k + (q + szWk o) = k + q + 1 + 1 := by unfold szWk; omega
    have hz0 : szWk o = 2 := rfl
    rw [hzz] at hR
    repeat' (first | simp only [cnt_tRs] | refine stS_Wk_used (by omega) ?_ | refine stS_Wk_target (by omega) ?_ | refine cndP_no (fun h => h rfl) ?_ | refine gE_x ?_ | refine gE_u ?_ | refine gP_u ?_ | refine gP_TT ?_ | refine gP_FF ?_ | refine gP_TF ?_ | refine gP_FT ?_ | refine gP_yt (by with_reducible assumption) ?_ | refine gP_nt (by with_reducible assumption) ?_ | refine gP_yf (by with_reducible assumption) ?_ | refine gP_nf (by with_reducible assumption) ?_ | refine gP_on (by with_reducible assumption) ?_ | refine gP_offt (by with_reducible assumption) ?_ | refine gP_offf (by with_reducible assumption) ?_ | refine pk_t (by with_reducible assumption) rfl ?_ | refine pk_f (by with_reducible assumption) rfl ?_ | refine pk_y (by with_reducible assumption) rfl ?_ | refine pk_n (by with_reducible assumption) rfl ?_ | refine pk_T rfl ?_ | refine pk_F rfl ?_ | refine cndP_T ?_ | refine cndP_F ?_ | refine cndP_yes (by first | with_reducible assumption | omega) ?_ | refine cndP_no (by first | with_reducible assumption | omega) ?_ | refine cndP_on (by with_reducible assumption) ?_ | refine cndP_off (by with_reducible assumption) ?_ | refine prP_lss ?_ | refine prP_leq ?_ | refine prP_gtr ?_ | refine prP_geq ?_ | refine prP_eqd ?_ | refine prP_ned ?_ | refine prP_notnd ?_ | refine prP_notd ?_ | refine prP_lnS ?_ | refine prP_inc (by omega) ?_ | refine prP_add ⟨by omega, by omega⟩ ?_ | refine prP_sub ⟨by omega, by omega⟩ ?_ | refine prP_addw ?_ | refine prP_subw ?_ | refine prP_rem (by omega) (by omega) ?_ | refine prP_quo (by omega) ⟨by omega, by omega⟩ (by omega) ?_ | refine prP_eqSd ?_ | refine prP_neSd ?_ | refine prP_eqB ?_ | refine prP_neB ?_ | refine ixW_iv (by omega) ?_ | refine ixW_c (by omega) (by omega) ?_ | refine ldI (by omega) ?_ | refine ldS (by omega) ?_ | refine ldg_ob (by omega) ?_ | refine ldg_wk (by omega) ?_ | refine ldg_po (by omega) ?_ | refine ldg_an (by omega) ?_ | refine ldg_nd (by omega) ?_ | refine ldc_ob (by omega) (by decide) rfl ?_ | refine ldc_ob0 (by omega) rfl ?_ | refine ldc_wk (by omega) (by decide) rfl ?_ | refine ldc_wk0 (by omega) rfl ?_ | refine ldc_po (by omega) (by decide) rfl ?_ | refine ldc_po0 (by omega) rfl ?_ | refine ldc_an (by omega) (by decide) rfl ?_ | refine ldc_an0 (by omega) rfl ?_ | refine ldc_nd (by omega) (by decide) rfl ?_ | refine ldc_nd0 (by omega) rfl ?_ | refine ldf_ob (by omega) (by omega) ?_ | refine ldl_ob (by omega) ?_ | refine ldf_nd (by omega) (by omega) ?_ | refine ldl_nd (by omega) ?_ | refine ldf_an (by omega) (by omega) ?_ | refine ldl_an (by omega) ?_ | refine ldg_tR (by omega) rfl rfl ?_ | refine ldc_tI (by omega) ?_ | refine ldc_tS (by omega) ?_ | refine ldc_tR (by omega) (by decide) rfl ?_ | refine ldc_tR0 (by omega) rfl ?_ | refine apW_p (by first | exact flat_tI _ | exact flat_tS _ | exact flat_tW _ | exact flat_tP _ | rfl) (by omega) ?_ | refine apW_n (by omega) ?_ | refine cndP_d (fun _ => ?_) (fun _ => ?_) | refine pk_sd rfl rfl (fun _ => ?_) (fun _ => ?_) | refine pk_sb rfl rfl (fun _ => ?_) (fun _ => ?_) | refine gP_dt (fun _ => ?_) (fun _ => ?_) | refine gP_df (fun _ => ?_) (fun _ => ?_) | refine cndP_i (fun _ => ?_) (fun _ => ?_) | refine gP_ct (fun _ => ?_) (fun _ => ?_) | refine gP_cf (fun _ => ?_) (fun _ => ?_) | refine prP_not ?_ | simp only [cnt_tO, cnt_tW, cnt_tP, cnt_tA, cnt_tN, cnt_tI, cnt_tS, cnt1_1, cnt1_0, cnt2_1, cnt3_1, cnt5_1, cnt6_1, cnt8_1, nx_0, nx_1, nx_2, nx_3, nx_4, nx_5, nx_6, nxc_0, nxc_1, nxc_2, nxc_3, nxc_4, nxc_5])
    exact hR
  · have : i = l.length := by omega
    subst this
    rw [List.take_length, mid_all]; exact h
end Go.Proofs.Ytnhicpkhkaihoaa.P
