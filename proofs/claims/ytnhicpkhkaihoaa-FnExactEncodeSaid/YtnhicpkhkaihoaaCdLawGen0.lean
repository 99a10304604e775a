/- Rows that the laws mark: what lies in them behind a mark, for any element. -/
import Derived.Test.YtnhicpkhkaihoaaCdTxtB
namespace Go.Proofs.Ytnhicpkhkaihoaa.P
open Go Go.Proofs.Ytnhicpkhkaihoaa Go.Proofs.Ytnhicpkhkaihoaa.Eng
set_option linter.unusedVariables false
theorem mkW_i {b n : Nat} {K : Value → Prop} (hn : b * n ≤ 2 ^ 48) (h : K (iv n)) : mkW b (iv n) (iv n) K := ⟨n, rfl, rfl, hn, h⟩
set_option linter.unusedVariables false
set_option linter.unusedSimpArgs false
attribute [local irreducible] prP gP gE gF cndP ixW ldc ldg ldl stc stg scW mkW apW loopP cl2 joinP pre2
variable {w0 : World}
/-! ### Marked rows -/
section
variable {α : Type} (mk : Int → α → α) (sz : α → Int)
def szL : List α → Int
  | [] => 0
  | x :: l => sz x + szL l
variable {mk sz}
theorem szL_pos (h : ∀ x, 0 ≤ sz x) : ∀ l : List α, 0 ≤ szL sz l
  | [] => by simp [szL]
  | x :: l => by have := h x; have := szL_pos h l; simp only [szL]; omega
end
theorem copy_step {α : Type} {l : List α} {i : Nat} {z : α} (hlt : i < l.length) : l.take (i + 1) ++ List.replicate (l.length - (i + 1)) z = (l.take i ++ List.replicate (l.length - i) z).set i l[i] := by
  have hml : (l.take i).length = i := by simp; omega
  obtain ⟨k, hk⟩ : ∃ k, l.length - i = k + 1 := ⟨l.length - i - 1, by omega⟩
  rw [List.set_append_right _ _ (by omega), hml, Nat.sub_self, hk, List.replicate_succ, List.set_cons_zero, List.take_succ_eq_append_getElem hlt, show l.length - (i + 1) = k by omega, List.append_assoc]
  rfl
theorem laws_szIntS_c {z : Int} {l : List Int} {K : J2} (hl : (l.length : Int) < 2 ^ 63) (hz : 0 ≤ z ∧ z ≤ 2 ^ 62) (h0 : K [I (-1)] []) (h1 : (l.length : Int) ≤ z → K [I (z - l.length)] []) : cl2 ⟨Try.prog, w0⟩ 77 laws_szIntS.sg [I z] [tI l] K := by
  refine laws_szIntS.cl2 ?_
  unfold laws_szIntS.txt
  simp only [cnt_tO, cnt_tW, cnt_tP, cnt_tA, cnt_tN, cnt_tI, cnt_tS, cnt1_1, cnt1_0, cnt2_1, cnt3_1, cnt5_1, cnt6_1, cnt8_1, nx_0, nx_1, nx_2, nx_3, nx_4, nx_5, nx_6, nxc_0, nxc_1, nxc_2, nxc_3, nxc_4, nxc_5]
  repeat' (first | refine gE_x ?_ | refine gE_u ?_ | refine gP_u ?_ | refine gP_TT ?_ | refine gP_FF ?_ | refine gP_TF ?_ | refine gP_FT ?_ | refine gP_yt (by with_reducible assumption) ?_ | refine gP_nt (by with_reducible assumption) ?_ | refine gP_yf (by with_reducible assumption) ?_ | refine gP_nf (by with_reducible assumption) ?_ | refine gP_on (by with_reducible assumption) ?_ | refine gP_offt (by with_reducible assumption) ?_ | refine gP_offf (by with_reducible assumption) ?_ | refine pk_t (by with_reducible assumption) rfl ?_ | refine pk_f (by with_reducible assumption) rfl ?_ | refine pk_y (by with_reducible assumption) rfl ?_ | refine pk_n (by with_reducible assumption) rfl ?_ | refine pk_T rfl ?_ | refine pk_F rfl ?_ | refine cndP_T ?_ | refine cndP_F ?_ | refine cndP_yes (by first | with_reducible assumption | omega) ?_ | refine cndP_no (by first | with_reducible assumption | omega) ?_ | refine cndP_on (by with_reducible assumption) ?_ | refine cndP_off (by with_reducible assumption) ?_ | refine prP_lss ?_ | refine prP_leq ?_ | refine prP_gtr ?_ | refine prP_geq ?_ | refine prP_eqd ?_ | refine prP_ned ?_ | refine prP_notnd ?_ | refine prP_notd ?_ | refine prP_lnS ?_ | refine prP_inc (by omega) ?_ | refine prP_add ⟨by omega, by omega⟩ ?_ | refine prP_sub ⟨by omega, by omega⟩ ?_ | refine prP_addw ?_ | refine prP_subw ?_ | refine prP_rem (by omega) (by omega) ?_ | refine prP_quo (by omega) ⟨by omega, by omega⟩ (by omega) ?_ | refine prP_eqSd ?_ | refine prP_neSd ?_ | refine prP_eqB ?_ | refine prP_neB ?_ | refine ixW_iv (by omega) ?_ | refine ixW_c (by omega) (by omega) ?_ | refine ldI (by omega) ?_ | refine ldS (by omega) ?_ | refine ldg_ob (by omega) ?_ | refine ldg_wk (by omega) ?_ | refine ldg_po (by omega) ?_ | refine ldg_an (by omega) ?_ | refine ldg_nd (by omega) ?_ | refine ldc_ob (by omega) (by decide) rfl ?_ | refine ldc_ob0 (by omega) rfl ?_ | refine ldc_wk (by omega) (by decide) rfl ?_ | refine ldc_wk0 (by omega) rfl ?_ | refine ldc_po (by omega) (by decide) rfl ?_ | refine ldc_po0 (by omega) rfl ?_ | refine ldc_an (by omega) (by decide) rfl ?_ | refine ldc_an0 (by omega) rfl ?_ | refine ldc_nd (by omega) (by decide) rfl ?_ | refine ldc_nd0 (by omega) rfl ?_ | refine ldf_ob (by omega) (by omega) ?_ | refine ldl_ob (by omega) ?_ | refine ldf_nd (by omega) (by omega) ?_ | refine ldl_nd (by omega) ?_ | refine ldf_an (by omega) (by omega) ?_ | refine ldl_an (by omega) ?_ | refine ldg_tR (by omega) rfl rfl ?_ | refine ldc_tI (by omega) ?_ | refine ldc_tS (by omega) ?_ | refine ldc_tR (by omega) (by decide) rfl ?_ | refine ldc_tR0 (by omega) rfl ?_ | refine apW_p (by first | exact flat_tI _ | exact flat_tS _ | exact flat_tW _ | exact flat_tP _ | rfl) (by omega) ?_ | refine apW_n (by omega) ?_ | refine cndP_d (fun _ => ?_) (fun _ => ?_) | refine pk_sd rfl rfl (fun _ => ?_) (fun _ => ?_) | refine pk_sb rfl rfl (fun _ => ?_) (fun _ => ?_) | refine gP_dt (fun _ => ?_) (fun _ => ?_) | refine gP_df (fun _ => ?_) (fun _ => ?_) | refine cndP_i (fun _ => ?_) (fun _ => ?_) | refine gP_ct (fun _ => ?_) (fun _ => ?_) | refine gP_cf (fun _ => ?_) (fun _ => ?_) | refine prP_not ?_ | simp only [cnt_tO, cnt_tW, cnt_tP, cnt_tA, cnt_tN, cnt_tI, cnt_tS, cnt1_1, cnt1_0, cnt2_1, cnt3_1, cnt5_1, cnt6_1, cnt8_1, nx_0, nx_1, nx_2, nx_3, nx_4, nx_5, nx_6, nxc_0, nxc_1, nxc_2, nxc_3, nxc_4, nxc_5])
  · exact h0
  · exact h1 (by omega)
theorem laws_toIntS_c {l : List Int} {K : J2} (hl : (l.length : Int) < 2 ^ 40) (h : K [] [tI l]) : cl2 ⟨Try.prog, w0⟩ 82 laws_toIntS.sg [] [tI l] K := laws_toIntS.cl2 (laws_toIntS_t hl h)
theorem laws_eqIntS_c {l : List Int} {K : J2} (hl : (l.length : Int) < 2 ^ 62) (h : K [.bool true] []) : cl2 ⟨Try.prog, w0⟩ 17 laws_eqIntS.sg [] [tI l, tI l] K := laws_eqIntS.cl2 (laws_eqIntS_t hl (by rw [decide_eq_true rfl]; exact h))
end Go.Proofs.Ytnhicpkhkaihoaa.P
