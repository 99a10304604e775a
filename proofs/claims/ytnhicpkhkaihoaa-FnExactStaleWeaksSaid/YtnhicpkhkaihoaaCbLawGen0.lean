/- Rows that the laws mark: what lies in them behind a mark, for any element. -/
import Derived.Test.YtnhicpkhkaihoaaCbTxtB
namespace Go.Proofs.Ytnhicpkhkaihoaa.P
open Go Go.Proofs.Ytnhicpkhkaihoaa Go.Proofs.Ytnhicpkhkaihoaa.Eng
set_option linter.unusedVariables false
theorem mkW_i {b n : Nat} {K : Value → Prop} (hn : b * n ≤ 2 ^ 48) (h : K (iv n)) : mkW b (iv n) (iv n) K := ⟨n, rfl, rfl, hn, h⟩
set_option linter.unusedVariables false
set_option linter.unusedSimpArgs false
attribute [local irreducible] prP gP gE gF cndP ixW ldc ldg ldl stc stg scW mkW apW loopP cl2 joinP pre2
variable {w0 : World}
/-! ### Marked rows -/
section
variable {α : Type} (mk : Int → α → α) (sz : α → Int)
def szL : List α → Int
  | [] => 0
  | x :: l => sz x + szL l
def mkL : Int → List α → List α
  | _, [] => []
  | k, x :: l => mk k x :: mkL (k + sz x) l
variable {mk sz}
theorem szL_app : ∀ a b : List α, szL sz (a ++ b) = szL sz a + szL sz b
  | [], b => by simp [szL]
  | x :: a, b => by simp only [List.cons_append, szL, szL_app a b]; omega
theorem mkL_app : ∀ (a b : List α) (k : Int), mkL mk sz k (a ++ b) = mkL mk sz k a ++ mkL mk sz (k + szL sz a) b
  | [], b, k => by simp [szL, mkL]
  | x :: a, b, k => by simp only [List.cons_append, mkL, szL, mkL_app a b, Int.add_assoc]
theorem mkL_len : ∀ (a : List α) (k : Int), (mkL mk sz k a).length = a.length
  | [], k => rfl
  | x :: a, k => by simp [mkL, mkL_len a]
theorem szL_succ {l : List α} {i : Nat} (hi : i < l.length) : szL sz (l.take (i + 1)) = szL sz (l.take i) + sz l[i] := by
  rw [List.take_succ_eq_append_getElem hi, szL_app]; simp [szL]
theorem szL_pos (h : ∀ x, 0 ≤ sz x) : ∀ l : List α, 0 ≤ szL sz l
  | [] => by simp [szL]
  | x :: l => by have := h x; have := szL_pos h l; simp only [szL]; omega
theorem szL_take (h : ∀ x, 0 ≤ sz x) (l : List α) (i : Nat) : szL sz (l.take i) ≤ szL sz l := by
  conv => rhs; rw [← List.take_append_drop i l, szL_app]
  have := szL_pos h (l.drop i); omega
theorem szL_at (h : ∀ x, 0 ≤ sz x) {l : List α} {i : Nat} (hi : i < l.length) : szL sz (l.take i) + sz l[i] ≤ szL sz l := by
  rw [← szL_succ hi]; exact szL_take h l _
def mid (mk : Int → α → α) (sz : α → Int) (k : Int) (l : List α) (i : Nat) : List α := mkL mk sz k (l.take i) ++ l.drop i
theorem mid_0 {k : Int} {l : List α} : mid mk sz k l 0 = l := by simp [mid, mkL]
theorem mid_all {k : Int} {l : List α} : mid mk sz k l l.length = mkL mk sz k l := by simp [mid]
theorem mid_len {k : Int} {l : List α} {i : Nat} (hi : i ≤ l.length) : (mid mk sz k l i).length = l.length := by
  simp only [mid, List.length_append, mkL_len, List.length_take, List.length_drop]; omega
theorem mid_get {k : Int} {l : List α} {i : Nat} (hi : i < l.length) (h : i < (mid mk sz k l i).length) : (mid mk sz k l i)[i] = l[i] := by
  have hl : (mkL mk sz k (l.take i)).length = i := by rw [mkL_len, List.length_take]; omega
  simp only [mid]
  rw [List.getElem_append_right (by omega)]
  simp [hl]
theorem mid_set {k : Int} {l : List α} {i : Nat} (hi : i < l.length) : (mid mk sz k l i).set i (mk (k + szL sz (l.take i)) l[i]) = mid mk sz k l (i + 1) := by
  have hl : (mkL mk sz k (l.take i)).length = i := by rw [mkL_len, List.length_take]; omega
  simp only [mid]
  rw [List.set_append_right _ _ (by omega), hl, Nat.sub_self, List.drop_eq_getElem_cons hi, List.set_cons_zero, List.take_succ_eq_append_getElem hi, mkL_app]
  simp [mkL]
end
theorem copy_step {α : Type} {l : List α} {i : Nat} {z : α} (hlt : i < l.length) : l.take (i + 1) ++ List.replicate (l.length - (i + 1)) z = (l.take i ++ List.replicate (l.length - i) z).set i l[i] := by
  have hml : (l.take i).length = i := by simp; omega
  obtain ⟨k, hk⟩ : ∃ k, l.length - i = k + 1 := ⟨l.length - i - 1, by omega⟩
  rw [List.set_append_right _ _ (by omega), hml, Nat.sub_self, hk, List.replicate_succ, List.set_cons_zero, List.take_succ_eq_append_getElem hlt, show l.length - (i + 1) = k by omega, List.append_assoc]
  rfl
theorem laws_szIntS_c {z : Int} {l : List Int} {K : J2} (hl : (l.length : Int) < 2 ^ 63) (hz : 0 ≤ z ∧ z ≤ 2 ^ 62) (h0 : K [I (-1)] []) (h1 : (l.length : Int) ≤ z → K [I (z - l.length)] []) : cl2 ⟨Try.prog, w0⟩ 77 laws_szIntS.sg [I z] [tI l] K := by
  refine laws_szIntS.cl2 ?_
  unfold laws_szIntS.txt
  simp only [cnt_tO, cnt_tW, cnt_tP, cnt_tA, cnt_tN, cnt_tI, cnt_tS, cnt1_1, cnt1_0, cnt2_1, cnt3_1, cnt5_1, cnt6_1, cnt8_1, nx_0, nx_1, nx_2, nx_3, nx_4, nx_5, nx_6, nxc_0, nxc_1, nxc_2, nxc_3, nxc_4, nxc_5]
  repeat' (first | refine gE_x ?_ | refine gE_u ?_ | refine gP_u ?_ | refine gP_TT ?_ | refine gP_FF ?_ | refine gP_TF ?_ | refine gP_FT ?_ | refine gP_yt (by with_reducible assumption) ?_ | refine gP_nt (by with_reducible assumption) ?_ | refine gP_yf (by with_reducible assumption) ?_ | refine gP_nf (by with_reducible assumption) ?_ | refine gP_on (by with_reducible assumption) ?_ | refine gP_offt (by with_reducible assumption) ?_ | refine gP_offf (by with_reducible assumption) ?_ | refine pk_t (by with_reducible assumption) rfl ?_ | refine pk_f (by with_reducible assumption) rfl ?_ | refine pk_y (by with_reducible assumption) rfl ?_ | refine pk_n (by with_reducible assumption) rfl ?_ | refine pk_T rfl ?_ | refine pk_F rfl ?_ | refine cndP_T ?_ | refine cndP_F ?_ | refine cndP_yes (by first | with_reducible assumption | omega) ?_ | refine cndP_no (by first | with_reducible assumption | omega) ?_ | refine cndP_on (by with_reducible assumption) ?_ | refine cndP_off (by with_reducible assumption) ?_ | refine prP_lss ?_ | refine prP_leq ?_ | refine prP_gtr ?_ | refine prP_geq ?_ | refine prP_eqd ?_ | refine prP_ned ?_ | refine prP_notnd ?_ | refine prP_notd ?_ | refine prP_lnS ?_ | refine prP_inc (by omega) ?_ | refine prP_add ⟨by omega, by omega⟩ ?_ | refine prP_sub ⟨by omega, by omega⟩ ?_ | refine prP_addw ?_ | refine prP_subw ?_ | refine prP_rem (by omega) (by omega) ?_ | refine prP_quo (by omega) ⟨by omega, by omega⟩ (by omega) ?_ | refine prP_eqSd ?_ | refine prP_neSd ?_ | refine prP_eqB ?_ | refine prP_neB ?_ | refine ixW_iv (by omega) ?_ | refine ixW_c (by omega) (by omega) ?_ | refine ldI (by omega) ?_ | refine ldS (by omega) ?_ | refine ldg_ob (by omega) ?_ | refine ldg_wk (by omega) ?_ | refine ldg_po (by omega) ?_ | refine ldg_an (by omega) ?_ | refine ldg_nd (by omega) ?_ | refine ldc_ob (by omega) (by decide) rfl ?_ | refine ldc_ob0 (by omega) rfl ?_ | refine ldc_wk (by omega) (by decide) rfl ?_ | refine ldc_wk0 (by omega) rfl ?_ | refine ldc_po (by omega) (by decide) rfl ?_ | refine ldc_po0 (by omega) rfl ?_ | refine ldc_an (by omega) (by decide) rfl ?_ | refine ldc_an0 (by omega) rfl ?_ | refine ldc_nd (by omega) (by decide) rfl ?_ | refine ldc_nd0 (by omega) rfl ?_ | refine ldf_ob (by omega) (by omega) ?_ | refine ldl_ob (by omega) ?_ | refine ldf_nd (by omega) (by omega) ?_ | refine ldl_nd (by omega) ?_ | refine ldf_an (by omega) (by omega) ?_ | refine ldl_an (by omega) ?_ | refine ldg_tR (by omega) rfl rfl ?_ | refine ldc_tI (by omega) ?_ | refine ldc_tS (by omega) ?_ | refine ldc_tR (by omega) (by decide) rfl ?_ | refine ldc_tR0 (by omega) rfl ?_ | refine apW_p (by first | exact flat_tI _ | exact flat_tS _ | exact flat_tW _ | exact flat_tP _ | rfl) (by omega) ?_ | refine apW_n (by omega) ?_ | refine cndP_d (fun _ => ?_) (fun _ => ?_) | refine pk_sd rfl rfl (fun _ => ?_) (fun _ => ?_) | refine pk_sb rfl rfl (fun _ => ?_) (fun _ => ?_) | refine gP_dt (fun _ => ?_) (fun _ => ?_) | refine gP_df (fun _ => ?_) (fun _ => ?_) | refine cndP_i (fun _ => ?_) (fun _ => ?_) | refine gP_ct (fun _ => ?_) (fun _ => ?_) | refine gP_cf (fun _ => ?_) (fun _ => ?_) | refine prP_not ?_ | simp only [cnt_tO, cnt_tW, cnt_tP, cnt_tA, cnt_tN, cnt_tI, cnt_tS, cnt1_1, cnt1_0, cnt2_1, cnt3_1, cnt5_1, cnt6_1, cnt8_1, nx_0, nx_1, nx_2, nx_3, nx_4, nx_5, nx_6, nxc_0, nxc_1, nxc_2, nxc_3, nxc_4, nxc_5])
  · exact h0
  · exact h1 (by omega)
theorem laws_szStringS_c {n : Int} {l : List ByteArray} {K : J2} (hl : (l.length : Int) < 2 ^ 63) (hs : ∀ s ∈ l, (s.size : Int) < 2 ^ 63) (hn : 0 ≤ n ∧ n ≤ 2 ^ 62) (h0 : K [I (-1)] []) (h1 : ∀ r, 0 ≤ r → r ≤ n → (l.length : Int) ≤ n → (∀ s ∈ l, (s.size : Int) ≤ n) → K [I r] []) : cl2 ⟨Try.prog, w0⟩ 78 laws_szStringS.sg [I n] [tS l] K := laws_szStringS.cl2 (laws_szStringS_t hl hs hn h0 h1)
theorem laws_toIntS_c {l : List Int} {K : J2} (hl : (l.length : Int) < 2 ^ 40) (h : K [] [tI l]) : cl2 ⟨Try.prog, w0⟩ 82 laws_toIntS.sg [] [tI l] K := laws_toIntS.cl2 (laws_toIntS_t hl h)
theorem laws_toStringS_c {l : List ByteArray} {K : J2} (hl : (l.length : Int) < 2 ^ 40) (h : K [] [tS l]) : cl2 ⟨Try.prog, w0⟩ 83 laws_toStringS.sg [] [tS l] K := laws_toStringS.cl2 (laws_toStringS_t hl h)
theorem laws_eqIntS_c {l : List Int} {K : J2} (hl : (l.length : Int) < 2 ^ 62) (h : K [.bool true] []) : cl2 ⟨Try.prog, w0⟩ 17 laws_eqIntS.sg [] [tI l, tI l] K := laws_eqIntS.cl2 (laws_eqIntS_t hl (by rw [decide_eq_true rfl]; exact h))
theorem laws_eqStringS_c {l : List ByteArray} {K : J2} (hl : (l.length : Int) < 2 ^ 62) (h : K [.bool true] []) : cl2 ⟨Try.prog, w0⟩ 87 laws_eqStringS.sg [] [tS l, tS l] K := laws_eqStringS.cl2 (laws_eqStringS_t hl (by rw [decide_eq_true rfl]; exact h))
theorem laws_markIntS_c {n : Int} {l : List Int} {K : J2} (hl : (l.length : Int) < 2 ^ 62) (hn : 0 ≤ n ∧ n < 2 ^ 62) (h : K [I (n + l.length)] [tI (marks n l.length)]) : cl2 ⟨Try.prog, w0⟩ 20 laws_markIntS.sg [I n] [tI l] K := laws_markIntS.cl2 (laws_markIntS_t hl hn h)
theorem laws_markStringS_c {n : Int} {l : List ByteArray} {K : J2} (hl : (l.length : Int) < 2 ^ 62) (hn : 0 ≤ n ∧ n < 2 ^ 62) (h : K [I (n + l.length)] [tS (marksS n l.length)]) : cl2 ⟨Try.prog, w0⟩ 90 laws_markStringS.sg [I n] [tS l] K := laws_markStringS.cl2 (laws_markStringS_t hl hn h)
theorem marks_len (z : Int) (k : Nat) : (marks z k).length = k := by simp [marks]
theorem laws_heldIntS_c {n : Int} {m : Nat} {K : J2} (hm : (m : Int) < 2 ^ 61) (hn : 0 ≤ n ∧ n < 2 ^ 61) (h : K [I (n + m)] []) : cl2 ⟨Try.prog, w0⟩ 21 laws_heldIntS.sg [I n] [tI (marks n m)] K := by
  refine laws_heldIntS.cl2 ?_
  unfold laws_heldIntS.txt
  rw [cnt_tI, marks_len]
  refine loopP_from (fun i => [I (n + i), iv i]) (fun _ => []) m (fun _ => True) (by simp [iv_eq]) rfl trivial (fun R i hi hP hR => ?_)
  refine prP_ltN (cndP_d (fun hlt => ?_) fun hge => ?_)
  · have hl : i < (marks n m).length := by rw [marks_len]; exact hlt
    have hg : (marks n m)[i] = n + i := by simp [marks]
    refine ixW_iv hlt (ldc_tI hl ?_)
    rw [hg]
    refine prP_ned (cndP_no (fun h => h rfl) (prP_add (b := 1) ⟨by omega, by omega⟩ (prP_inc (by omega) ?_)))
    have := hR hlt trivial
    simpa [Int.add_assoc] using this
  · have : i = m := by omega
    subst this; exact h
end Go.Proofs.Ytnhicpkhkaihoaa.P
