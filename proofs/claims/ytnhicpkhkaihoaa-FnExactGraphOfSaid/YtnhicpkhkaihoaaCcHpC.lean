/- Heaps as graphs. -/
import Derived.Test.YtnhicpkhkaihoaaCcHpA
import Derived.Test.YtnhicpkhkaihoaaCcLawTyNode
import Derived.Test.YtnhicpkhkaihoaaCcRowT
namespace Go.Proofs.Ytnhicpkhkaihoaa.P
open Go Go.Proofs.Ytnhicpkhkaihoaa Go.Proofs.Ytnhicpkhkaihoaa.Eng
set_option linter.unusedVariables false
set_option linter.unusedSimpArgs false
attribute [local irreducible] prP gP gE gF cndP ixW ldc ldg ldl stc stg scW mkW apW loopP cl2 joinP pre2
variable {w0 : World}
structure Gr where
  nodes : List Nd
  weaks : List Wk
  sites : List ByteArray
abbrev gtrees (g : Gr) : List (List T) := [tR tN g.nodes, tR tW g.weaks, tS g.sites]
def ndOf (o : HObj) : Nd := ⟨o.live, o.gen, o.site, o.holds, o.roots, o.field⟩
def grOf (h : Hp) : Gr := ⟨h.objs.map ndOf, h.weaks, h.sites⟩
theorem impl_copyInts_c {l : List Int} {K : J2} (hl : (l.length : Int) ≤ 2 ^ 40) (h : K [] [tI l]) : cl2 ⟨Try.prog, w0⟩ 145 impl_copyInts.sg [] [tI l] K := by
  refine impl_copyInts.cl2 ?_
  unfold impl_copyInts.txt
  simp only [cnt_tO, cnt_tW, cnt_tP, cnt_tA, cnt_tN, cnt_tI, cnt_tS, cnt1_1, cnt1_0, cnt2_1, cnt3_1, cnt5_1, cnt6_1, cnt8_1, nx_0, nx_1, nx_2, nx_3, nx_4, nx_5, nx_6, nxc_0, nxc_1, nxc_2, nxc_3, nxc_4, nxc_5]
  refine apW_p (flat_tI l) (by omega) ?_
  rw [List.nil_append]; exact h
theorem impl_copyTexts_c {l : List ByteArray} {K : J2} (hl : (l.length : Int) ≤ 2 ^ 40) (h : K [] [tS l]) : cl2 ⟨Try.prog, w0⟩ 144 impl_copyTexts.sg [] [tS l] K := by
  refine impl_copyTexts.cl2 ?_
  unfold impl_copyTexts.txt
  simp only [cnt_tO, cnt_tW, cnt_tP, cnt_tA, cnt_tN, cnt_tI, cnt_tS, cnt1_1, cnt1_0, cnt2_1, cnt3_1, cnt5_1, cnt6_1, cnt8_1, nx_0, nx_1, nx_2, nx_3, nx_4, nx_5, nx_6, nxc_0, nxc_1, nxc_2, nxc_3, nxc_4, nxc_5]
  refine apW_p (flat_tS l) (by omega) ?_
  rw [List.nil_append]; exact h
theorem ob_of {l : List HObj} {P : HObj → Prop} (h : ∀ o ∈ l, P o) {i : Nat} (hi : i < l.length) : P (ob l i) := by rw [← ob_eq hi]; exact h _ (List.getElem_mem hi)
theorem tN_snoc (l : List Nd) (x : Nd) : tR tN l ++ [T.c (.bool x.live), .c (I x.gen), .c (I x.site), .c (I x.holds), .c (I x.roots), .l 1 (tI x.field)] = tR tN (l ++ [x]) := tR_snoc l x
theorem nd_step {a : List HObj} {i : Nat} (hi : i < a.length) : tR tN ((a.take i).map ndOf) ++ [T.c (.bool (ob a i).live), .c (I (ob a i).gen), .c (I (ob a i).site), .c (I (ob a i).holds), .c (I (ob a i).roots), .l 1 (tI (ob a i).field)] = tR tN ((a.take (i + 1)).map ndOf) := by
  rw [List.take_succ_eq_append_getElem hi, List.map_append, ob_eq hi]
  exact tN_snoc _ (ndOf (ob a i))
theorem impl_GraphOf_c {h : Hp} {K : J2} (hf : Fits h) (hk : K [] (gtrees (grOf h))) : cl2 ⟨Try.prog, w0⟩ 66 impl_GraphOf.sg [] (trees h) K := by
  obtain ⟨a, b, c, d⟩ := h
  have g1 := hf.ol; have g2 := hf.wl; have g3 := hf.sl
  simp only at g1 g2 g3
  refine impl_GraphOf.cl2 ?_
  unfold impl_GraphOf.txt
  simp only [cnt_tO, cnt_tW, cnt_tP, cnt_tA, cnt_tN, cnt_tI, cnt_tS, cnt1_1, cnt1_0, cnt2_1, cnt3_1, cnt5_1, cnt6_1, cnt8_1, nx_0, nx_1, nx_2, nx_3, nx_4, nx_5, nx_6, nxc_0, nxc_1, nxc_2, nxc_3, nxc_4, nxc_5]
  refine apW_p (flat_tW _) (by omega) (impl_copyTexts_c (by omega) ?_)
  refine loopP_from (fun i => [iv a.length, iv i]) (fun i => [tR tN ((a.take i).map ndOf), tR tW b, tS d]) a.length (fun _ => True) rfl rfl trivial (fun R i hi hP hR => ?_)
  simp only [cnt_tO, cnt_tW, cnt_tP, cnt_tA, cnt_tN, cnt_tI, cnt_tS, cnt1_1, cnt1_0, cnt2_1, cnt3_1, cnt5_1, cnt6_1, cnt8_1, nx_0, nx_1, nx_2, nx_3, nx_4, nx_5, nx_6, nxc_0, nxc_1, nxc_2, nxc_3, nxc_4, nxc_5]
  refine prP_lss (cndP_d (fun hlt => ?_) fun hge => ?_)
  · have hlt : i < a.length := by omega
    have hfo : ((ob a i).field.length : Int) ≤ 1048576 := ob_of (l := a) hf.of hlt
    have hln : ((a.take i).map ndOf).length = i := by simp; omega
    replace hR := hR hlt trivial
    refine ixW_iv hlt (ldg_ob hlt ?_)
    rw [sub_ob hlt]
    refine impl_copyInts_c (by omega) (apW_n (by rw [hln]; omega) (prP_inc (by omega) ?_))
    rw [← nd_step hlt] at hR
    exact hR
  · have : i = a.length := by omega
    subst this
    simpa [grOf, gtrees] using hk
theorem spec_GraphOf_c {h : Hp} {K : J2} (hf : Fits h) (hk : K [] (gtrees (grOf h))) : cl2 ⟨Try.prog, w0⟩ 65 spec_GraphOf.sg [] (trees h) K := by
  obtain ⟨a, b, c, d⟩ := h
  have g1 := hf.ol; have g2 := hf.wl; have g3 := hf.sl
  simp only at g1 g2 g3
  refine spec_GraphOf.cl2 ?_
  unfold spec_GraphOf.txt
  simp only [cnt_tO, cnt_tW, cnt_tP, cnt_tA, cnt_tN, cnt_tI, cnt_tS, cnt1_1, cnt1_0, cnt2_1, cnt3_1, cnt5_1, cnt6_1, cnt8_1, nx_0, nx_1, nx_2, nx_3, nx_4, nx_5, nx_6, nxc_0, nxc_1, nxc_2, nxc_3, nxc_4, nxc_5]
  refine apW_p (flat_tW _) (by simp only [cnt, List.length_nil]; omega) (apW_p (flat_tS _) (by omega) ?_)
  refine loopP_from (fun i => [iv i]) (fun i => [tR tN ((a.take i).map ndOf), tR tW b, tS d]) a.length (fun _ => True) rfl rfl trivial (fun R i hi hP hR => ?_)
  simp only [cnt_tO, cnt_tW, cnt_tP, cnt_tA, cnt_tN, cnt_tI, cnt_tS, cnt1_1, cnt1_0, cnt2_1, cnt3_1, cnt5_1, cnt6_1, cnt8_1, nx_0, nx_1, nx_2, nx_3, nx_4, nx_5, nx_6, nxc_0, nxc_1, nxc_2, nxc_3, nxc_4, nxc_5]
  refine prP_lss (cndP_d (fun hlt => ?_) fun hge => ?_)
  · have hlt : i < a.length := by omega
    have hfo : ((ob a i).field.length : Int) ≤ 1048576 := ob_of (l := a) hf.of hlt
    have hln : ((a.take i).map ndOf).length = i := by simp; omega
    replace hR := hR hlt trivial
    refine ixW_iv hlt (ldg_ob hlt ?_)
    rw [sub_ob hlt]
    refine apW_p (flat_tI _) (by first | omega | (simp only [cnt_tO, cnt_tW, cnt_tP, cnt_tA, cnt_tN, cnt_tI, cnt_tS, cnt1_1, cnt1_0, cnt2_1, cnt3_1, cnt5_1, cnt6_1, cnt8_1, nx_0, nx_1, nx_2, nx_3, nx_4, nx_5, nx_6, nxc_0, nxc_1, nxc_2, nxc_3, nxc_4, nxc_5]; omega)) (apW_n (by rw [hln]; omega) (prP_inc (by omega) ?_))
    rw [← nd_step hlt] at hR
    exact hR
  · have : i = a.length := by omega
    subst this
    simpa [grOf, gtrees] using hk
def szGr (g : Gr) : Int := szL szNd g.nodes + szL szWk g.weaks + g.sites.length
def mkGr (k : Int) (g : Gr) : Gr := ⟨mkL mkNd szNd k g.nodes, mkL mkWk szWk (k + szL szNd g.nodes) g.weaks, marksS (k + szL szNd g.nodes + szL szWk g.weaks) g.sites.length⟩
structure GFits (g : Gr) : Prop where
  nl : (g.nodes.length : Int) ≤ 1048576
  nf : ∀ o ∈ g.nodes, (o.field.length : Int) ≤ 1048576
  wl : (g.weaks.length : Int) ≤ 1048576
  sl : (g.sites.length : Int) ≤ 1048576
theorem GFits.of {h : Hp} (hf : Fits h) : GFits (grOf h) := by
  refine ⟨?_, ?_, hf.wl, hf.sl⟩
  · simp only [grOf, List.length_map]; exact hf.ol
  · intro o ho
    obtain ⟨x, hx, rfl⟩ := List.mem_map.1 ho
    exact hf.of x hx
theorem GFits.nodes {g : Gr} (hf : GFits g) : 0 ≤ szL szNd g.nodes ∧ szL szNd g.nodes ≤ 2 ^ 41 := by
  refine ⟨szL_pos szNd_pos _, ?_⟩
  have h1 := szL_le (sz := szNd) (b := 1048581) (l := g.nodes) fun o ho => by have := hf.nf o ho; unfold szNd; omega
  have h2 := hf.nl
  have h3 : (g.nodes.length : Int) * 1048581 ≤ 1048576 * 1048581 := Int.mul_le_mul_of_nonneg_right h2 (by omega)
  omega
theorem GFits.weaks {g : Gr} (hf : GFits g) : 0 ≤ szL szWk g.weaks ∧ szL szWk g.weaks ≤ 2 ^ 41 := by
  refine ⟨szL_pos szWk_pos _, ?_⟩
  have h1 := szL_le (sz := szWk) (b := 2) (l := g.weaks) fun o ho => by unfold szWk; omega
  have h2 := hf.wl
  omega
theorem GFits.sz {g : Gr} (hf : GFits g) : 0 ≤ szGr g ∧ szGr g ≤ 2 ^ 43 := by
  have h1 := hf.nodes; have h2 := hf.weaks; have h4 := hf.sl
  unfold szGr; omega
theorem laws_eqGraph_c {g : Gr} {K : J2} (hf : GFits g) (hk : K [.bool true] []) : cl2 ⟨Try.prog, w0⟩ 67 laws_eqGraph.sg [] (gtrees g ++ gtrees g) K := by
  refine laws_eqGraph.cl2 ?_
  unfold laws_eqGraph.txt
  have h1 := hf.nl; have h2 := hf.wl; have h4 := hf.sl
  refine laws_eqNodeS_c (by omega) (fun o ho => by have := hf.nf o ho; omega) (prP_not (cndP_F ?_))
  refine laws_eqWeakS_c (by omega) (prP_not (cndP_F ?_))
  exact laws_eqStringS_c (by omega) (prP_not (cndP_F hk))
theorem laws_markGraph_c {g : Gr} {k : Int} {K : J2} (hf : GFits g) (hk : 0 ≤ k ∧ k ≤ 2 ^ 50) (h1 : K [I (k + szGr g)] (gtrees (mkGr k g))) : cl2 ⟨Try.prog, w0⟩ 68 laws_markGraph.sg [I k] (gtrees g) K := by
  refine laws_markGraph.cl2 ?_
  unfold laws_markGraph.txt
  have g1 := hf.nl; have g2 := hf.wl; have g4 := hf.sl
  have a1 := hf.nodes; have a2 := hf.weaks
  refine laws_markNodeS_c (by omega) hk.1 (by omega) (laws_markWeakS_c (by omega) (by omega) (by omega) (laws_markStringS_c (by omega) ⟨by omega, by omega⟩ ?_))
  have e : k + szGr g = k + szL szNd g.nodes + szL szWk g.weaks + g.sites.length := by unfold szGr; omega
  rw [e] at h1; exact h1
theorem laws_heldGraph_c {g : Gr} {k : Int} {K : J2} (hf : GFits g) (hk : 0 ≤ k ∧ k ≤ 2 ^ 50) (h1 : K [I (k + szGr g)] []) : cl2 ⟨Try.prog, w0⟩ 69 laws_heldGraph.sg [I k] (gtrees (mkGr k g)) K := by
  refine laws_heldGraph.cl2 ?_
  unfold laws_heldGraph.txt
  have g1 := hf.nl; have g2 := hf.wl; have g4 := hf.sl
  have a1 := hf.nodes; have a2 := hf.weaks
  refine laws_heldNodeS_c (by omega) hk.1 (by omega) (prP_lss (cndP_no (by omega) (laws_heldWeakS_c (by omega) (by omega) (by omega) (prP_lss (cndP_no (by omega) (laws_heldStringS_c (by omega) ⟨by omega, by omega⟩ (prP_lss (cndP_no (by omega) ?_))))))))
  have e : k + szGr g = k + szL szNd g.nodes + szL szWk g.weaks + g.sites.length := by unfold szGr; omega
  rw [e] at h1; exact h1
theorem FnExactGraphOf_t {a : AHeap} (g : goodtoHp a) {K : J2} (done : K [.bool true] []) : laws_FnExactGraphOf.txt ⟨Try.prog, w0⟩ (tR tO (toHp a).objs) (tR tW (toHp a).weaks) (tI (toHp a).buffer) (tS (toHp a).sites) K := by
  obtain ⟨hr, hn⟩ := g
  generalize toHp a = h at hr hn ⊢
  unfold laws_FnExactGraphOf.txt
  refine laws_szHeap_c hr (prP_lss (cndP_yes (by omega) done)) fun r r0 r1 hf => prP_lss (cndP_no (by omega) ?_)
  have g1 := hf.ol
  have g9 := hf.sz
  have gf := GFits.of hf
  have g8 := gf.sz
  repeat' (first | refine laws_toHeap_c hf ?_ | refine spec_GraphOf_c hf ?_ | refine impl_GraphOf_c hf ?_ | refine laws_eqGraph_c gf ?_ | refine laws_eqHeap_c hf ?_ | refine laws_markHeap_c hf ⟨by omega, by omega⟩ ?_ | refine laws_markGraph_c gf ⟨by omega, by omega⟩ ?_ | refine laws_heldGraph_c gf ⟨by omega, by omega⟩ ?_ | refine prP_not (cndP_F ?_) | refine cndP_no (fun h => h rfl) ?_ | exact done | refine gE_x ?_ | refine gE_u ?_ | refine gP_u ?_ | refine gP_TT ?_ | refine gP_FF ?_ | refine gP_TF ?_ | refine gP_FT ?_ | refine gP_yt (by first | with_reducible assumption | omega) ?_ | refine gP_nt (by first | with_reducible assumption | omega) ?_ | refine gP_yf (by first | with_reducible assumption | omega) ?_ | refine gP_nf (by first | with_reducible assumption | omega) ?_ | refine gP_on (by with_reducible assumption) ?_ | refine gP_offt (by with_reducible assumption) ?_ | refine gP_offf (by with_reducible assumption) ?_ | refine pk_t (by with_reducible assumption) rfl ?_ | refine pk_f (by with_reducible assumption) rfl ?_ | refine pk_y (by first | with_reducible assumption | omega) rfl ?_ | refine pk_n (by first | with_reducible assumption | omega) rfl ?_ | refine pk_T rfl ?_ | refine pk_F rfl ?_ | refine cndP_T ?_ | refine cndP_F ?_ | refine cndP_yes (by first | with_reducible assumption | omega) ?_ | refine cndP_no (by first | with_reducible assumption | omega) ?_ | refine cndP_on (by with_reducible assumption) ?_ | refine cndP_off (by with_reducible assumption) ?_ | refine prP_lss ?_ | refine prP_leq ?_ | refine prP_gtr ?_ | refine prP_geq ?_ | refine prP_eqd ?_ | refine prP_ned ?_ | refine prP_notnd ?_ | refine prP_notd ?_ | refine prP_lnS ?_ | refine prP_inc (by omega) ?_ | refine prP_add ⟨by omega, by omega⟩ ?_ | refine prP_sub ⟨by omega, by omega⟩ ?_ | refine prP_addw ?_ | refine prP_subw ?_ | refine prP_rem (by omega) (by omega) ?_ | refine prP_quo (by omega) ⟨by omega, by omega⟩ (by omega) ?_ | refine prP_eqSd ?_ | refine prP_neSd ?_ | refine prP_eqB ?_ | refine prP_neB ?_ | refine ixW_iv (by omega) ?_ | refine ixW_c (by omega) (by omega) ?_ | refine ldI (by omega) ?_ | refine ldS (by omega) ?_ | refine ldg_ob (by omega) ?_ | refine ldg_wk (by omega) ?_ | refine ldg_po (by omega) ?_ | refine ldg_an (by omega) ?_ | refine ldg_nd (by omega) ?_ | refine ldc_ob (by omega) (by decide) rfl ?_ | refine ldc_ob0 (by omega) rfl ?_ | refine ldc_wk (by omega) (by decide) rfl ?_ | refine ldc_wk0 (by omega) rfl ?_ | refine ldc_po (by omega) (by decide) rfl ?_ | refine ldc_po0 (by omega) rfl ?_ | refine ldc_an (by omega) (by decide) rfl ?_ | refine ldc_an0 (by omega) rfl ?_ | refine ldc_nd (by omega) (by decide) rfl ?_ | refine ldc_nd0 (by omega) rfl ?_ | refine ldf_ob (by omega) (by omega) ?_ | refine ldl_ob (by omega) ?_ | refine ldf_nd (by omega) (by omega) ?_ | refine ldl_nd (by omega) ?_ | refine ldf_an (by omega) (by omega) ?_ | refine ldl_an (by omega) ?_ | refine ldg_tR (by omega) rfl rfl ?_ | refine ldc_tI (by omega) ?_ | refine ldc_tS (by omega) ?_ | refine ldc_tR (by omega) (by decide) rfl ?_ | refine ldc_tR0 (by omega) rfl ?_ | refine apW_p (by first | exact flat_tI _ | exact flat_tS _ | exact flat_tW _ | exact flat_tP _ | rfl) (by omega) ?_ | refine apW_n (by omega) ?_ | refine cndP_d (fun _ => ?_) (fun _ => ?_) | refine pk_sd rfl rfl (fun _ => ?_) (fun _ => ?_) | refine pk_sb rfl rfl (fun _ => ?_) (fun _ => ?_) | refine gP_dt (fun _ => ?_) (fun _ => ?_) | refine gP_df (fun _ => ?_) (fun _ => ?_) | refine cndP_i (fun _ => ?_) (fun _ => ?_) | refine gP_ct (fun _ => ?_) (fun _ => ?_) | refine gP_cf (fun _ => ?_) (fun _ => ?_) | refine prP_not ?_ | simp only [cnt_tO, cnt_tW, cnt_tP, cnt_tA, cnt_tN, cnt_tI, cnt_tS, cnt1_1, cnt1_0, cnt2_1, cnt3_1, cnt5_1, cnt6_1, cnt8_1, nx_0, nx_1, nx_2, nx_3, nx_4, nx_5, nx_6, nxc_0, nxc_1, nxc_2, nxc_3, nxc_4, nxc_5])
end Go.Proofs.Ytnhicpkhkaihoaa.P
