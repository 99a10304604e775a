/- A part of the proof. -/
import Derived.Test.YtnhicpkhkaihoaaCgHpA
import Derived.Test.YtnhicpkhkaihoaaCgLawTyNode
import Derived.Test.YtnhicpkhkaihoaaCgRowT
import Derived.Test.YtnhicpkhkaihoaaCgTxtB
/- Heaps as graphs. -/
namespace Go.Proofs.Ytnhicpkhkaihoaa.P
open Go Go.Proofs.Ytnhicpkhkaihoaa Go.Proofs.Ytnhicpkhkaihoaa.Eng
set_option maxHeartbeats 4000000
set_option linter.unusedVariables false
set_option linter.unusedSimpArgs false
attribute [local irreducible] prP gP gE gF cndP ixW ldc ldg ldl stc stg scW mkW apW loopP cl2 joinP pre2 selW
variable {w0 : World}
structure Gr where
  nodes : List Nd
  weaks : List Wk
  sites : List ByteArray
def ndOf (o : HObj) : Nd := ⟨o.live, o.gen, o.site, o.holds, o.roots, o.field⟩
def grOf (h : Hp) : Gr := ⟨h.objs.map ndOf, h.weaks, h.sites⟩
theorem impl_copyInts_c {l : List Int} {K : J2} (hl : (l.length : Int) ≤ 2 ^ 40) (h : K [] [tI l]) : cl2 ⟨Try.prog, w0⟩ 145 impl_copyInts.sg [] [tI l] K := by
  refine impl_copyInts.cl2 ?_
  unfold impl_copyInts.txt
  simp only [cnt_tO, cnt_tW, cnt_tP, cnt_tA, cnt_tN, cnt_tI, cnt_tS, cnt1_1, cnt1_0, cnt2_1, cnt3_1, cnt5_1, cnt6_1, cnt8_1, nx_0, nx_1, nx_2, nx_3, nx_4, nx_5, nx_6, nxc_0, nxc_1, nxc_2, nxc_3, nxc_4, nxc_5]
  refine apW_p (flat_tI l) (by omega) ?_
  rw [List.nil_append]; exact h
theorem impl_copyTexts_c {l : List ByteArray} {K : J2} (hl : (l.length : Int) ≤ 2 ^ 40) (h : K [] [tS l]) : cl2 ⟨Try.prog, w0⟩ 144 impl_copyTexts.sg [] [tS l] K := by
  refine impl_copyTexts.cl2 ?_
  unfold impl_copyTexts.txt
  simp only [cnt_tO, cnt_tW, cnt_tP, cnt_tA, cnt_tN, cnt_tI, cnt_tS, cnt1_1, cnt1_0, cnt2_1, cnt3_1, cnt5_1, cnt6_1, cnt8_1, nx_0, nx_1, nx_2, nx_3, nx_4, nx_5, nx_6, nxc_0, nxc_1, nxc_2, nxc_3, nxc_4, nxc_5]
  refine apW_p (flat_tS l) (by omega) ?_
  rw [List.nil_append]; exact h
theorem ob_of {l : List HObj} {P : HObj → Prop} (h : ∀ o ∈ l, P o) {i : Nat} (hi : i < l.length) : P (ob l i) := by rw [← ob_eq hi]; exact h _ (List.getElem_mem hi)
def szGr (g : Gr) : Int := szL szNd g.nodes + szL szWk g.weaks + g.sites.length
structure GFits (g : Gr) : Prop where
  nl : (g.nodes.length : Int) ≤ 1048576
  nf : ∀ o ∈ g.nodes, (o.field.length : Int) ≤ 1048576
  wl : (g.weaks.length : Int) ≤ 1048576
  sl : (g.sites.length : Int) ≤ 1048576
theorem GFits.of {h : Hp} (hf : Fits h) : GFits (grOf h) := by
  refine ⟨?_, ?_, hf.wl, hf.sl⟩
  · simp only [grOf, List.length_map]; exact hf.ol
  · intro o ho
    obtain ⟨x, hx, rfl⟩ := List.mem_map.1 ho
    exact hf.of x hx
theorem GFits.nodes {g : Gr} (hf : GFits g) : 0 ≤ szL szNd g.nodes ∧ szL szNd g.nodes ≤ 2 ^ 41 := by
  refine ⟨szL_pos szNd_pos _, ?_⟩
  have h1 := szL_le (sz := szNd) (b := 1048581) (l := g.nodes) fun o ho => by have := hf.nf o ho; unfold szNd; omega
  have h2 := hf.nl
  have h3 : (g.nodes.length : Int) * 1048581 ≤ 1048576 * 1048581 := Int.mul_le_mul_of_nonneg_right h2 (by omega)
  omega
theorem GFits.weaks {g : Gr} (hf : GFits g) : 0 ≤ szL szWk g.weaks ∧ szL szWk g.weaks ≤ 2 ^ 41 := by
  refine ⟨szL_pos szWk_pos _, ?_⟩
  have h1 := szL_le (sz := szWk) (b := 2) (l := g.weaks) fun o ho => by unfold szWk; omega
  have h2 := hf.wl
  omega
theorem GFits.sz {g : Gr} (hf : GFits g) : 0 ≤ szGr g ∧ szGr g ≤ 2 ^ 43 := by
  have h1 := hf.nodes; have h2 := hf.weaks; have h4 := hf.sl
  unfold szGr; omega
end Go.Proofs.Ytnhicpkhkaihoaa.P
/- How many fields lead to an object. -/
namespace Go.Proofs.Ytnhicpkhkaihoaa.P
open Go Go.Proofs.Ytnhicpkhkaihoaa Go.Proofs.Ytnhicpkhkaihoaa.Eng
set_option maxHeartbeats 4000000
set_option linter.unusedVariables false
set_option linter.unusedSimpArgs false
attribute [local irreducible] prP gP gE gF cndP ixW ldc ldg ldl stc stg scW mkW apW loopP cl2 joinP pre2 selW
variable {w0 : World}
def cntO (id : Int) (o : HObj) : Nat := if o.live = true then o.field.count id else 0
def edges (l : List HObj) (id : Int) : Nat := (l.map (cntO id)).sum
def inE (l : List HObj) (s : Int) : Int := if (0 ≤ s ∧ s ≤ l.length - 1) ∧ (ob l s.toNat).live = true then edges l (idOf s (ob l s.toNat).gen) else 0
theorem edges_succ {l : List HObj} {i : Nat} {id : Int} (hi : i < l.length) : edges (l.take (i + 1)) id = edges (l.take i) id + cntO id (ob l i) := by
  rw [edges, List.take_succ_eq_append_getElem hi, List.map_append, List.sum_append, ob_eq hi]; simp [edges]
theorem count_succ {l : List Int} {j : Nat} {id : Int} (hj : j < l.length) : (l.take (j + 1)).count id = (l.take j).count id + if gI l j = id then 1 else 0 := by
  rw [List.take_succ_eq_append_getElem hj, List.count_append, gI_eq hj, List.count_singleton]
  simp
theorem cntO_le (id : Int) (o : HObj) : cntO id o ≤ o.field.length := by
  unfold cntO; split
  · exact List.count_le_length
  · exact Nat.zero_le _
theorem edges_le {l : List HObj} {id : Int} {b : Nat} (h : ∀ o ∈ l, o.field.length ≤ b) : edges l id ≤ l.length * b := by
  induction l with
  | nil => simp [edges]
  | cons o l ih =>
    have h1 := ih fun x hx => h x (by simp [hx])
    have h2 := cntO_le id o
    have h3 := h o (by simp)
    simp only [edges, List.map_cons, List.sum_cons, List.length_cons, Nat.add_mul, Nat.one_mul] at h1 ⊢
    omega
theorem ob_len {l : List HObj} (hf : ∀ o ∈ l, (o.field.length : Int) ≤ 1048576) (i : Nat) : ((ob l i).field.length : Int) ≤ 1048576 := by
  by_cases hi : i < l.length
  · rw [← ob_eq hi]; exact hf _ (List.getElem_mem hi)
  · unfold ob; rw [List.getD_eq_getElem?_getD, List.getElem?_eq_none (by omega)]; simp
theorem impl_InEdges_c {a : List HObj} {b c d : List T} {s : Int} {K : J2} (hs : F64 s) (hl : (a.length : Int) ≤ 1048576) (hf : ∀ o ∈ a, (o.field.length : Int) ≤ 1048576) (h : K [I (inE a s)] []) : cl2 ⟨Try.prog, w0⟩ 223 impl_InEdges.sg [I s] [tR tO a, b, c, d] K := by
  obtain ⟨s1, s2⟩ := hs
  refine impl_InEdges.cl2 ?_
  unfold impl_InEdges.txt
  simp only [cnt_tO, cnt_tW, cnt_tP, cnt_tA, cnt_tN, cnt_tI, cnt_tS, cnt1_1, cnt1_0, cnt2_1, cnt3_1, cnt5_1, cnt6_1, cnt8_1, nx_0, nx_1, nx_2, nx_3, nx_4, nx_5, nx_6, nxc_0, nxc_1, nxc_2, nxc_3, nxc_4, nxc_5]
  repeat' (first | refine impl_in_d ?_ | refine impl_IdOf_c ?_ | refine gE_x ?_ | refine gP_yf (by first | with_reducible assumption | omega) ?_ | refine gP_nf (by first | with_reducible assumption | omega) ?_ | refine pk_y (by first | with_reducible assumption | omega) rfl ?_ | refine pk_n (by first | with_reducible assumption | omega) rfl ?_ | refine cndP_T ?_ | refine prP_notd ?_ | refine prP_sub ⟨by omega, by omega⟩ ?_ | refine ixW_c (by omega) (by omega) ?_ | refine ldc_ob (by omega) (by decide) rfl ?_ | refine ldc_ob0 (by omega) rfl ?_ | refine gP_df (fun _ => ?_) (fun _ => ?_) | refine cndP_i (fun _ => ?_) (fun _ => ?_) | refine prP_not ?_ | simp only [cnt_tO, cnt_tW, cnt_tP, cnt_tA, cnt_tN, cnt_tI, cnt_tS, cnt1_1, cnt1_0, cnt2_1, cnt3_1, cnt5_1, cnt6_1, cnt8_1, nx_0, nx_1, nx_2, nx_3, nx_4, nx_5, nx_6, nxc_0, nxc_1, nxc_2, nxc_3, nxc_4, nxc_5])
  · rw [inE, if_neg (by simp_all)] at h; exact h
  · rename_i hin hlv
    have hin : 0 ≤ s ∧ s ≤ (a.length : Int) - 1 := Decidable.not_not.1 hin
    rw [inE, if_pos ⟨hin, by simpa using hlv⟩] at h
    generalize idOf s (ob a s.toNat).gen = id at h ⊢
    refine loopP_from (fun i => [I id, I (edges (a.take i) id), iv a.length, iv i]) (fun _ => []) a.length (fun _ => True) rfl rfl trivial (fun R i hi _ hR => ?_)
    have he := edges_le (l := a.take i) (id := id) (b := 1048576) fun o ho => by have := hf o (List.mem_of_mem_take ho); omega
    have hln : (a.take i).length ≤ a.length := by simp; omega
    have hmul : (a.take i).length * 1048576 ≤ 1048576 * 1048576 := Nat.mul_le_mul_right _ (by omega)
    have hfo := ob_len hf i
    simp only [cnt_tO, cnt_tW, cnt_tP, cnt_tA, cnt_tN, cnt_tI, cnt_tS, cnt1_1, cnt1_0, cnt2_1, cnt3_1, cnt5_1, cnt6_1, cnt8_1, nx_0, nx_1, nx_2, nx_3, nx_4, nx_5, nx_6, nxc_0, nxc_1, nxc_2, nxc_3, nxc_4, nxc_5]
    refine prP_lss (cndP_d (fun hlt => ?_) fun hge => ?_)
    · have hlt : i < a.length := by omega
      replace hR := hR hlt trivial
      rw [edges_succ hlt, cntO] at hR
      refine ixW_iv hlt (ldg_ob hlt ?_)
      rw [sub_ob hlt, cnt_tI]
      refine loopP_from (fun j => [I id, I ((edges (a.take i) id + (if (ob a i).live = true then ((ob a i).field.take j).count id else 0) : Nat) : Int), iv a.length, iv i, iv (natOf (iv i) * 8 + 6), iv (ob a i).field.length, iv j, .bool (ob a i).live, I (ob a i).gen, I (ob a i).site, I (ob a i).holds, I (ob a i).roots, I (ob a i).count, iv (natOf (iv i) * 8 + 6), .bool (ob a i).purple]) (fun _ => []) (ob a i).field.length (fun _ => True) (by simp only [List.take_zero, List.count_nil, ite_self, Nat.add_zero]; rfl) rfl trivial (fun R2 j hj _ hR2 => ?_)
      have hc : ((ob a i).field.take j).count id ≤ j := Nat.le_trans List.count_le_length (by simp; omega)
      simp only [cnt_tO, cnt_tW, cnt_tP, cnt_tA, cnt_tN, cnt_tI, cnt_tS, cnt1_1, cnt1_0, cnt2_1, cnt3_1, cnt5_1, cnt6_1, cnt8_1, nx_0, nx_1, nx_2, nx_3, nx_4, nx_5, nx_6, nxc_0, nxc_1, nxc_2, nxc_3, nxc_4, nxc_5]
      refine prP_lss (cndP_d (fun hlt2 => ?_) fun hge2 => ?_)
      · have hlt2 : j < (ob a i).field.length := by omega
        replace hR2 := hR2 hlt2 trivial
        rw [count_succ hlt2] at hR2
        rw [natOf_iv (natOf (iv i) * 8 + 6), sub_ob hlt, cnt_tI]
        refine joinP_k (ixW_iv hlt2 (ldf_ob hlt hlt2 (gE_x (gE_x ?_))))
        by_cases hv : (ob a i).live = true
        · simp only [if_pos hv] at hR2 ⊢
          refine gP_on hv (prP_eqd (pk_t hv rfl (cndP_d (fun he => ?_) fun he => ?_)))
          · rw [if_pos he] at hR2
            exact prP_add ⟨by omega, by omega⟩ (prP_inc (by omega) hR2)
          · rw [if_neg he] at hR2
            exact prP_inc (by omega) hR2
        · have hv : (ob a i).live = false := by simpa using hv
          simp only [hv, Bool.false_eq_true, if_false] at hR2 ⊢
          exact gP_FT (pk_F rfl (cndP_F (prP_inc (by omega) hR2)))
      · have : j = (ob a i).field.length := by omega
        subst this
        rw [List.take_length] at hc ⊢
        exact prP_inc (by omega) hR
    · have : i = a.length := by omega
      subst this
      rw [List.take_length]; exact h
  · rw [inE, if_neg (by rintro ⟨h1, h2⟩; simp_all)] at h; exact h
theorem spec_InEdges_c {a : List HObj} {b c d : List T} {s : Int} {K : J2} (hs : F64 s) (hl : (a.length : Int) ≤ 1048576) (hf : ∀ o ∈ a, (o.field.length : Int) ≤ 1048576) (h : K [I (inE a s)] []) : cl2 ⟨Try.prog, w0⟩ 189 spec_InEdges.sg [I s] [tR tO a, b, c, d] K := by
  obtain ⟨s1, s2⟩ := hs
  refine spec_InEdges.cl2 ?_
  unfold spec_InEdges.txt
  simp only [cnt_tO, cnt_tW, cnt_tP, cnt_tA, cnt_tN, cnt_tI, cnt_tS, cnt1_1, cnt1_0, cnt2_1, cnt3_1, cnt5_1, cnt6_1, cnt8_1, nx_0, nx_1, nx_2, nx_3, nx_4, nx_5, nx_6, nxc_0, nxc_1, nxc_2, nxc_3, nxc_4, nxc_5]
  repeat' (first | refine spec_l1In_d ?_ | refine spec_IdOf_c ?_ | refine gE_x ?_ | refine gP_yf (by first | with_reducible assumption | omega) ?_ | refine gP_nf (by first | with_reducible assumption | omega) ?_ | refine pk_y (by first | with_reducible assumption | omega) rfl ?_ | refine pk_n (by first | with_reducible assumption | omega) rfl ?_ | refine cndP_T ?_ | refine prP_notd ?_ | refine prP_sub ⟨by omega, by omega⟩ ?_ | refine ixW_c (by omega) (by omega) ?_ | refine ldc_ob (by omega) (by decide) rfl ?_ | refine ldc_ob0 (by omega) rfl ?_ | refine gP_df (fun _ => ?_) (fun _ => ?_) | refine cndP_i (fun _ => ?_) (fun _ => ?_) | refine prP_not ?_ | simp only [cnt_tO, cnt_tW, cnt_tP, cnt_tA, cnt_tN, cnt_tI, cnt_tS, cnt1_1, cnt1_0, cnt2_1, cnt3_1, cnt5_1, cnt6_1, cnt8_1, nx_0, nx_1, nx_2, nx_3, nx_4, nx_5, nx_6, nxc_0, nxc_1, nxc_2, nxc_3, nxc_4, nxc_5])
  · rw [inE, if_neg (by simp_all)] at h; exact h
  · rename_i hin hlv
    have hin : 0 ≤ s ∧ s ≤ (a.length : Int) - 1 := Decidable.not_not.1 hin
    rw [inE, if_pos ⟨hin, by simpa using hlv⟩] at h
    generalize idOf s (ob a s.toNat).gen = id at h ⊢
    refine loopP_from (fun i => [I (edges (a.take i) id), I id, iv i]) (fun _ => []) a.length (fun _ => True) rfl rfl trivial (fun R i hi _ hR => ?_)
    have he := edges_le (l := a.take i) (id := id) (b := 1048576) fun o ho => by have := hf o (List.mem_of_mem_take ho); omega
    have hln : (a.take i).length ≤ a.length := by simp; omega
    have hmul : (a.take i).length * 1048576 ≤ 1048576 * 1048576 := Nat.mul_le_mul_right _ (by omega)
    have hfo := ob_len hf i
    simp only [cnt_tO, cnt_tW, cnt_tP, cnt_tA, cnt_tN, cnt_tI, cnt_tS, cnt1_1, cnt1_0, cnt2_1, cnt3_1, cnt5_1, cnt6_1, cnt8_1, nx_0, nx_1, nx_2, nx_3, nx_4, nx_5, nx_6, nxc_0, nxc_1, nxc_2, nxc_3, nxc_4, nxc_5]
    refine prP_lss (cndP_d (fun hlt => ?_) fun hge => ?_)
    · have hlt : i < a.length := by omega
      replace hR := hR hlt trivial
      rw [edges_succ hlt, cntO] at hR
      refine loopP_from (fun j => [I ((edges (a.take i) id + (if (ob a i).live = true then ((ob a i).field.take j).count id else 0) : Nat) : Int), I id, iv i, iv j]) (fun _ => []) (ob a i).field.length (fun _ => True) (by simp only [List.take_zero, List.count_nil, ite_self, Nat.add_zero]; rfl) rfl trivial (fun R2 j hj _ hR2 => ?_)
      have hc : ((ob a i).field.take j).count id ≤ j := Nat.le_trans List.count_le_length (by simp; omega)
      refine ixW_iv hlt (ldl_ob hlt ?_)
      rw [sub_ob hlt, cnt_tI]
      by_cases hv : (ob a i).live = true
      · simp only [if_pos hv] at hR hR2 ⊢
        refine prP_lss (gE_x (gE_x (gE_x (gP_dt (fun hlt2 => ?_) fun hge2 => ?_))))
        · have hlt2' : j < (ob a i).field.length := by
            have : (j : Int) < ((ob a i).field.length : Int) := hlt2
            omega
          replace hR2 := hR2 hlt2' trivial
          rw [count_succ hlt2'] at hR2
          refine ixW_iv hlt (gE_x (gP_yt hlt2 (ldc_ob0 hlt rfl (pk_y hlt2 rfl (cndP_on hv (joinP_k (ixW_iv hlt (ldl_ob hlt ?_))))))))
          rw [sub_ob hlt, cnt_tI]
          refine ixW_iv hlt2' (ldf_ob hlt hlt2' (prP_eqd (cndP_d (fun he => ?_) fun he => ?_)))
          · rw [if_pos he] at hR2
            exact prP_add ⟨by omega, by omega⟩ (prP_inc (by omega) hR2)
          · rw [if_neg he] at hR2
            exact prP_inc (by omega) hR2
        · have : j = (ob a i).field.length := by
            have : ¬ (j : Int) < ((ob a i).field.length : Int) := hge2
            omega
          subst this
          rw [List.take_length] at hc ⊢
          exact gE_x (gP_nt hge2 (pk_n hge2 rfl (cndP_F (prP_inc (by omega) hR))))
      · have hv : (ob a i).live = false := by simpa using hv
        simp only [hv, Bool.false_eq_true, if_false] at hR hR2 ⊢
        refine prP_lss (gE_x (gE_x (gE_x (gP_dt (fun hlt2 => ?_) fun hge2 => ?_))))
        · exact ixW_iv hlt (gE_x (gP_yt hlt2 (ldc_ob0 hlt (v := .bool false) (by rw [← hv]; rfl) (pk_y hlt2 rfl (cndP_F (prP_inc (by omega) hR))))))
        · exact gE_x (gP_nt hge2 (pk_n hge2 rfl (cndP_F (prP_inc (by omega) hR))))
    · have : i = a.length := by omega
      subst this
      rw [List.take_length]; exact h
  · rw [inE, if_neg (by rintro ⟨h1, h2⟩; simp_all)] at h; exact h
/-! ### Members -/
theorem nmem_succ {l : List Int} {i : Nat} {x : Int} (hi : i < l.length) (h : x ∉ l.take i) (hn : gI l i ≠ x) : x ∉ l.take (i + 1) := by
  rw [List.take_succ_eq_append_getElem hi, gI_eq hi]
  simp only [List.mem_append, List.mem_singleton, not_or]
  exact ⟨h, fun he => hn he.symm⟩
theorem gI_mem {l : List Int} {i : Nat} (h : i < l.length) : gI l i ∈ l := by rw [← gI_eq h]; exact List.getElem_mem h
theorem impl_hasInt_c {l : List Int} {x : Int} {K : J2} (hl : (l.length : Int) < 2 ^ 62) (h : K [.bool (decide (x ∈ l))] []) : cl2 ⟨Try.prog, w0⟩ 200 impl_hasInt.sg [I x] [tI l] K := by
  refine impl_hasInt.cl2 ?_
  unfold impl_hasInt.txt
  simp only [cnt_tO, cnt_tW, cnt_tP, cnt_tA, cnt_tN, cnt_tI, cnt_tS, cnt1_1, cnt1_0, cnt2_1, cnt3_1, cnt5_1, cnt6_1, cnt8_1, nx_0, nx_1, nx_2, nx_3, nx_4, nx_5, nx_6, nxc_0, nxc_1, nxc_2, nxc_3, nxc_4, nxc_5]
  refine loopP_from (fun i => [I x, iv l.length, iv i]) (fun _ => []) l.length (fun i => x ∉ l.take i) rfl rfl (by simp) (fun R i hi hP hR => ?_)
  refine prP_lss (cndP_d (fun hlt => ?_) fun hge => ?_)
  · have hlt : i < l.length := by omega
    refine ixW_iv hlt (ldI hlt (prP_eqd (cndP_d (fun he => ?_) fun he => ?_)))
    · rw [decide_eq_true (he ▸ gI_mem hlt)] at h; exact h
    · exact prP_inc (by omega) (hR hlt (nmem_succ hlt hP he))
  · have : i = l.length := by omega
    subst this
    rw [List.take_length] at hP
    rw [decide_eq_false hP] at h; exact h
theorem spec_l5Has_c {l : List Int} {x : Int} {K : J2} (hl : (l.length : Int) < 2 ^ 62) (h : K [.bool (decide (x ∈ l))] []) : cl2 ⟨Try.prog, w0⟩ 190 spec_l5Has.sg [I x] [tI l] K := by
  refine spec_l5Has.cl2 ?_
  unfold spec_l5Has.txt
  simp only [cnt_tO, cnt_tW, cnt_tP, cnt_tA, cnt_tN, cnt_tI, cnt_tS, cnt1_1, cnt1_0, cnt2_1, cnt3_1, cnt5_1, cnt6_1, cnt8_1, nx_0, nx_1, nx_2, nx_3, nx_4, nx_5, nx_6, nxc_0, nxc_1, nxc_2, nxc_3, nxc_4, nxc_5]
  refine loopP_from (fun i => [I x, iv i]) (fun _ => []) l.length (fun i => x ∉ l.take i) rfl rfl (by simp) (fun R i hi hP hR => ?_)
  refine prP_lss (cndP_d (fun hlt => ?_) fun hge => ?_)
  · have hlt : i < l.length := by omega
    refine ixW_iv hlt (ldI hlt (prP_eqd (cndP_d (fun he => ?_) fun he => ?_)))
    · rw [decide_eq_true (he ▸ gI_mem hlt)] at h; exact h
    · exact prP_inc (by omega) (hR hlt (nmem_succ hlt hP he))
  · have : i = l.length := by omega
    subst this
    rw [List.take_length] at hP
    rw [decide_eq_false hP] at h; exact h
attribute [irreducible] inE edges
end Go.Proofs.Ytnhicpkhkaihoaa.P
/- ShowEvent's small functions, the reference's and the program's. -/
namespace Go.Proofs.Ytnhicpkhkaihoaa.P
open Go Go.Proofs.Ytnhicpkhkaihoaa Go.Proofs.Ytnhicpkhkaihoaa.Eng
set_option linter.unusedVariables false
/-! ### Numbers in bounds -/
def inB (n lo hi : Int) : Bool := decide (n ≥ lo) && decide (n ≤ hi)
def argB (n : Int) : Bool := inB n (-1000000000) 1000000000
def spkB (a b c d : Int) (s : ByteArray) : Bool := (((argB a && argB b) && argB c) && argB d) && decide ((s.size : Int) ≤ 8)
/-! ### Answers -/
def ansB (c v : Int) (l : List Int) : Bool := (inB c 0 6 && argB v && decide (l.length ≤ 8)) && l.all argB
end Go.Proofs.Ytnhicpkhkaihoaa.P
/- ShowEvent's words: numbers and texts. -/
namespace Go.Proofs.Ytnhicpkhkaihoaa.P
open Go Go.Proofs.Ytnhicpkhkaihoaa Go.Proofs.Ytnhicpkhkaihoaa.Eng
set_option linter.unusedVariables false
def bytesL (l : List Nat) : ByteArray := l.foldl (fun b n => b.push (UInt8.ofNat n)) ByteArray.empty
theorem bytesL_size (l : List Nat) : (bytesL l).size = l.length := by
  have : ∀ (l : List Nat) (b : ByteArray), (l.foldl (fun b n => b.push (UInt8.ofNat n)) b).size = b.size + l.length := by
    intro l
    induction l with
    | nil => intro b; rfl
    | cons a l ih => intro b; rw [List.foldl_cons, ih, ByteArray.size_push, List.length_cons]; omega
  rw [bytesL, this]; simp
/-- A number in sevens of bits. -/
def vd : Nat → Nat → List Nat
  | 0, n => [n]
  | k + 1, n => if n ≥ 128 then (128 + n % 128) :: vd k (n / 128) else [n]
theorem vd_len : ∀ k n, (vd k n).length ≤ k + 1
  | 0, n => by simp [vd]
  | k + 1, n => by
    unfold vd; split
    · have := vd_len k (n / 128); simp only [List.length_cons]; omega
    · simp
def V (n : Int) : ByteArray := if inB n 0 562949953421311 then bytesL (vd 6 n.toNat) else ⟨#[]⟩
theorem V_size (n : Int) : (V n).size ≤ 7 := by
  unfold V; split
  · rw [bytesL_size]; exact vd_len 6 _
  · exact Nat.zero_le _
attribute [irreducible] V
end Go.Proofs.Ytnhicpkhkaihoaa.P
/- ShowEvent's words: signed numbers, texts, pens. -/
namespace Go.Proofs.Ytnhicpkhkaihoaa.P
open Go Go.Proofs.Ytnhicpkhkaihoaa Go.Proofs.Ytnhicpkhkaihoaa.Eng
set_option linter.unusedVariables false
def zg (n : Int) : Int := if inB n (-100000000000000) 100000000000000 then (if n < 0 then -2 * n - 1 else 2 * n) else -1
theorem inB_iff {n lo hi : Int} : inB n lo hi = true ↔ lo ≤ n ∧ n ≤ hi := by simp [inB]
def SI (n : Int) : ByteArray := V (zg n)
def ST (s : ByteArray) : ByteArray := if (s.size : Int) > 8 then ⟨#[]⟩ else V s.size ++ s
theorem ST_size (s : ByteArray) : (ST s).size ≤ 15 := by
  unfold ST; split
  · exact Nat.zero_le _
  · have := V_size s.size
    rw [ByteArray.size_append]; omega
/-! ### The texts of a pen -/
theorem cndP_eqS {a b : ByteArray} {p q : Prop} (h1 : a = b → p) (h2 : a ≠ b → q) : cndP (.bool (a.toList == b.toList)) p q :=
  cndP_i (fun h => h1 (BA_ext (by simpa using h))) (fun h => h2 (by rintro rfl; simp at h))
instance : LawfulBEq ByteArray where
  eq_of_beq {a b} h := by
    cases a; cases b
    have h : _ == _ := h
    first | exact congrArg _ (eq_of_beq h) | (simp [BEq.beq, instBEqByteArray.beq] at h; simpa using h) | (simp_all)
  rfl {a} := by
    cases a
    first | exact beq_self_eq_true (α := Array UInt8) _ | (show ByteArray.beq _ _ = true; unfold ByteArray.beq; simp) | (simp [BEq.beq, ByteArray.beq])
/-- Where a text stands. -/
def at_ (l : List ByteArray) (s : ByteArray) : Int := if s ∈ l then (l.idxOf s : Int) else -1
theorem notin_take {l : List ByteArray} {s : ByteArray} {i : Nat} (hi : i < l.length) (h1 : s ∉ l.take i) (h2 : l[i] ≠ s) : s ∉ l.take (i + 1) := by
  rw [List.take_succ_eq_append_getElem hi]
  simp only [List.mem_append, List.mem_singleton, not_or]
  exact ⟨h1, fun h => h2 h.symm⟩
theorem at_here {l : List ByteArray} {s : ByteArray} {i : Nat} (hi : i < l.length) (h1 : s ∉ l.take i) (h2 : l[i] = s) : at_ l s = i := by
  have hm : s ∈ l := h2 ▸ List.getElem_mem hi
  rw [at_, if_pos hm]
  have e : l = l.take i ++ l[i] :: l.drop (i + 1) := by rw [← List.drop_eq_getElem_cons hi, List.take_append_drop]
  have hx : l.idxOf s = i := by
    rw [e, List.idxOf_append, if_neg h1, h2, List.idxOf_cons_self]
    simp; omega
  rw [hx]
theorem impl_textAt_c {w0 : World} {s : ByteArray} {l : List ByteArray} {K : J2} (hl : (l.length : Int) < 2 ^ 62) (h : K [I (at_ l s)] []) : cl2 ⟨Try.prog, w0⟩ 115 impl_textAt.sg [.string s] [tS l] K := by
  refine impl_textAt.cl2 ?_
  unfold impl_textAt.txt
  simp only [cnt_tS]
  refine loopP_from (fun i => [.string s, iv l.length, iv i]) (fun _ => []) l.length (fun i => s ∉ l.take i) rfl rfl (by simp) (fun R i hi hP hR => ?_)
  refine prP_ltN (cndP_d (fun hlt => ?_) fun hge => ?_)
  · refine ixW_iv hlt (ldc_tS hlt (prP_eqlS (cndP_eqS (fun he => ?_) fun hne => ?_)))
    · rw [at_here hlt hP he] at h; exact h
    · exact prP_inc (by omega) (hR hlt (notin_take hlt hP hne))
  · have : i = l.length := by omega
    subst this
    rw [List.take_length] at hP
    rw [at_, if_neg hP] at h; exact h
theorem impl_hasText_c {w0 : World} {s : ByteArray} {l : List ByteArray} {K : J2} (hl : (l.length : Int) < 2 ^ 62) (h : K [.bool (decide (s ∈ l))] []) : cl2 ⟨Try.prog, w0⟩ 176 impl_hasText.sg [.string s] [tS l] K := by
  refine impl_hasText.cl2 (impl_textAt_c hl (prP_geq ?_))
  have : decide (at_ l s ≥ 0) = decide (s ∈ l) := by
    by_cases hm : s ∈ l <;> simp [at_, hm]
  rw [this]; exact h
end Go.Proofs.Ytnhicpkhkaihoaa.P
