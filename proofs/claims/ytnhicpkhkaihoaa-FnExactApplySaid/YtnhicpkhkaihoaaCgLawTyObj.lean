/- A part of the proof. -/
import Derived.Test.YtnhicpkhkaihoaaCgLawGen0
/- What the laws' small functions make of rows of Obj. -/
namespace Go.Proofs.Ytnhicpkhkaihoaa.P
open Go Go.Proofs.Ytnhicpkhkaihoaa Go.Proofs.Ytnhicpkhkaihoaa.Eng
set_option maxHeartbeats 4000000
set_option linter.unusedVariables false
set_option linter.unusedSimpArgs false
attribute [local irreducible] prP gP gE gF cndP ixW ldc ldg ldl stc stg scW mkW apW loopP cl2 joinP pre2 selW
variable {w0 : World}
def mkHObj (k : Int) (o : HObj) : HObj := ⟨decide ((k) % 3 = 0), k + 1, k + 1 + 1, k + 1 + 1 + 1, k + 1 + 1 + 1 + 1, k + 1 + 1 + 1 + 1 + 1, marks (k + 1 + 1 + 1 + 1 + 1 + 1) o.field.length, decide ((k + 1 + 1 + 1 + 1 + 1 + 1 + o.field.length) % 3 = 0)⟩
def szHObj (o : HObj) : Int := 7 + (o.field.length : Int)
theorem szHObj_pos (o : HObj) : 0 ≤ szHObj o := by unfold szHObj; omega
theorem stS_HObj_live {cur : List HObj} {i : Nat} {y : HObj} {v : Bool} {K : List T → Prop} (hi : i < cur.length) (h : K (tR tO (cur.set i { y with live := v }))) : stc (tR tO (cur.set i y)) [] (natOf (iv i) * 8) (.bool v) K := stc_tRs0 hi rfl rfl h
theorem stS_HObj_gen {cur : List HObj} {i : Nat} {y : HObj} {v : Int} {K : List T → Prop} (hi : i < cur.length) (h : K (tR tO (cur.set i { y with gen := v }))) : stc (tR tO (cur.set i y)) [] (natOf (iv i) * 8 + 1) (I v) K := stc_tRs hi (by decide) rfl rfl h
theorem stS_HObj_site {cur : List HObj} {i : Nat} {y : HObj} {v : Int} {K : List T → Prop} (hi : i < cur.length) (h : K (tR tO (cur.set i { y with site := v }))) : stc (tR tO (cur.set i y)) [] (natOf (iv i) * 8 + 2) (I v) K := stc_tRs hi (by decide) rfl rfl h
theorem stS_HObj_holds {cur : List HObj} {i : Nat} {y : HObj} {v : Int} {K : List T → Prop} (hi : i < cur.length) (h : K (tR tO (cur.set i { y with holds := v }))) : stc (tR tO (cur.set i y)) [] (natOf (iv i) * 8 + 3) (I v) K := stc_tRs hi (by decide) rfl rfl h
theorem stS_HObj_roots {cur : List HObj} {i : Nat} {y : HObj} {v : Int} {K : List T → Prop} (hi : i < cur.length) (h : K (tR tO (cur.set i { y with roots := v }))) : stc (tR tO (cur.set i y)) [] (natOf (iv i) * 8 + 4) (I v) K := stc_tRs hi (by decide) rfl rfl h
theorem stS_HObj_count {cur : List HObj} {i : Nat} {y : HObj} {v : Int} {K : List T → Prop} (hi : i < cur.length) (h : K (tR tO (cur.set i { y with count := v }))) : stc (tR tO (cur.set i y)) [] (natOf (iv i) * 8 + 5) (I v) K := stc_tRs hi (by decide) rfl rfl h
theorem npS_HObj_field {cur : List HObj} {i : Nat} {y : HObj} {m : List Int} (hi : i < cur.length) : nput (tR tO (cur.set i y)) [natOf (iv i) * 8 + 6] (tI m) = tR tO (cur.set i { y with field := m }) := nput_tRs hi (by decide) rfl rfl
theorem sbS_HObj_field {cur : List HObj} {i : Nat} {y : HObj} (hi : i < cur.length) : subN (tR tO (cur.set i y)) [natOf (iv i) * 8 + 6] = tI y.field := subN_tRs hi (by decide) rfl
theorem sb_HObj_field {l : List HObj} {i : Nat} (hi : i < l.length) : subN (tR tO l) [natOf (iv i) * 8 + 6] = tI l[i].field := subN_tR hi (by decide) rfl
theorem stS_HObj_purple {cur : List HObj} {i : Nat} {y : HObj} {v : Bool} {K : List T → Prop} (hi : i < cur.length) (h : K (tR tO (cur.set i { y with purple := v }))) : stc (tR tO (cur.set i y)) [] (natOf (iv i) * 8 + 7) (.bool v) K := stc_tRs hi (by decide) rfl rfl h
theorem laws_eqObj_c {o : HObj} {K : J2} (h_field : (o.field.length : Int) < 2 ^ 62) (h : K [.bool true] []) : cl2 ⟨Try.prog, w0⟩ 158 laws_eqObj.sg [.bool o.live, I o.gen, I o.site, I o.holds, I o.roots, I o.count, .bool o.purple, .bool o.live, I o.gen, I o.site, I o.holds, I o.roots, I o.count, .bool o.purple] [tI o.field, tI o.field] K := by
  refine laws_eqObj.cl2 ?_
  unfold laws_eqObj.txt
  repeat' (first | refine laws_eqIntS_c h_field ?_ | refine cndP_no (fun h => h rfl) ?_ | refine cndP_F ?_ | refine prP_ned ?_ | refine prP_notd ?_ | refine prP_not ?_)
  exact h
theorem laws_eqObjS_c {l : List HObj} {K : J2} (hl : (l.length : Int) < 2 ^ 62) (hs : ∀ o ∈ l, (o.field.length : Int) < 2 ^ 62) (h : K [.bool true] []) : cl2 ⟨Try.prog, w0⟩ 85 laws_eqObjS.sg [] [tR tO l, tR tO l] K := by
  refine laws_eqObjS.cl2 ?_
  unfold laws_eqObjS.txt
  simp only [cnt_tO, cnt_tW, cnt_tP, cnt_tA, cnt_tN, cnt_tI, cnt_tS, cnt1_1, cnt1_0, cnt2_1, cnt3_1, cnt5_1, cnt6_1, cnt8_1, nx_0, nx_1, nx_2, nx_3, nx_4, nx_5, nx_6, nxc_0, nxc_1, nxc_2, nxc_3, nxc_4, nxc_5]
  refine prP_ned (cndP_no (fun h => h rfl) ?_)
  refine loopP_from (fun i => [iv i]) (fun _ => []) l.length (fun _ => True) rfl rfl trivial (fun R i hi hP hR => ?_)
  refine prP_lss (cndP_d (fun hlt => ?_) fun hge => ?_)
  · have hlt : i < l.length := by omega
    refine ixW_iv hlt (ldg_tR hlt rfl rfl (ixW_iv hlt (ldg_tR hlt rfl rfl ?_)))
    rw [sb_HObj_field hlt]
    refine laws_eqObj_c (hs _ (List.getElem_mem hlt)) ?_
    repeat' (first | refine cndP_F ?_ | refine prP_inc (by omega) ?_ | refine prP_not ?_)
    exact hR hlt trivial
  · exact h
theorem laws_toObj_c {o : HObj} {K : J2} (h_field : (o.field.length : Int) < 2 ^ 40) (h : K [.bool o.live, I o.gen, I o.site, I o.holds, I o.roots, I o.count, .bool o.purple] [tI o.field]) : cl2 ⟨Try.prog, w0⟩ 155 laws_toObj.sg [.bool o.live, I o.gen, I o.site, I o.holds, I o.roots, I o.count, .bool o.purple] [tI o.field] K :=
  laws_toObj.cl2 (laws_toIntS_c h_field h)
theorem laws_toObjS_c {l : List HObj} {K : J2} (hl : (l.length : Int) < 2 ^ 40) (hs : ∀ o ∈ l, (o.field.length : Int) < 2 ^ 40) (h : K [] [tR tO l]) : cl2 ⟨Try.prog, w0⟩ 80 laws_toObjS.sg [] [tR tO l] K := by
  refine laws_toObjS.cl2 ?_
  unfold laws_toObjS.txt
  simp only [cnt_tO, cnt_tW, cnt_tP, cnt_tA, cnt_tN, cnt_tI, cnt_tS, cnt1_1, cnt1_0, cnt2_1, cnt3_1, cnt5_1, cnt6_1, cnt8_1, nx_0, nx_1, nx_2, nx_3, nx_4, nx_5, nx_6, nxc_0, nxc_1, nxc_2, nxc_3, nxc_4, nxc_5]
  refine mkW_i (by omega) ?_
  refine loopP_from (fun i => [iv i]) (fun i => [tR tO (l.take i ++ List.replicate (l.length - i) (⟨false, 0, 0, 0, 0, 0, [], false⟩ : HObj))]) l.length (fun _ => True) rfl ?_ trivial (fun R i hi hP hR => ?_)
  · rw [natOf_iv]; exact congrArg (fun x => [x]) ((repT_tR (f := tO) l.length (⟨false, 0, 0, 0, 0, 0, [], false⟩ : HObj)).trans (by simp))
  have hln : (l.take i ++ List.replicate (l.length - i) (⟨false, 0, 0, 0, 0, 0, [], false⟩ : HObj)).length = l.length := by simp; omega
  simp only [cnt_tO, cnt_tW, cnt_tP, cnt_tA, cnt_tN, cnt_tI, cnt_tS, cnt1_1, cnt1_0, cnt2_1, cnt3_1, cnt5_1, cnt6_1, cnt8_1, nx_0, nx_1, nx_2, nx_3, nx_4, nx_5, nx_6, nxc_0, nxc_1, nxc_2, nxc_3, nxc_4, nxc_5]
  refine prP_lss (cndP_d (fun hlt => ?_) fun hge => ?_)
  · have hlt : i < l.length := by omega
    replace hR := hR hlt trivial
    rw [copy_step hlt] at hR
    refine ixW_iv hlt (ldg_tR hlt rfl rfl ?_)
    rw [sb_HObj_field hlt]
    refine laws_toObj_c (o := l[i]) (hs _ (List.getElem_mem hlt)) ?_
    rw [hln]
    refine ixW_iv hlt (stg_tR (by rw [hln]; exact hlt) (y := l[i]) rfl (prP_inc (by omega) ?_))
    exact hR
  · have : i = l.length := by omega
    subst this
    simpa using h
theorem laws_markObjS_c {k : Int} {l : List HObj} {K : J2} (hl : (l.length : Int) < 2 ^ 60) (hk : 0 ≤ k) (hb : k + szL szHObj l < 2 ^ 60) (h : K [I (k + szL szHObj l)] [tR tO (mkL mkHObj szHObj k l)]) : cl2 ⟨Try.prog, w0⟩ 88 laws_markObjS.sg [I k] [tR tO l] K := by
  refine laws_markObjS.cl2 ?_
  unfold laws_markObjS.txt
  refine loopP_from (fun i => [I (k + szL szHObj (l.take i)), iv i]) (fun i => [tR tO (mid mkHObj szHObj k l i)]) l.length (fun _ => True) (by simp [szL, iv_eq]) (by rw [mid_0]) trivial (fun R i hi hP hR => ?_)
  simp only [cnt_tO, cnt_tW, cnt_tP, cnt_tA, cnt_tN, cnt_tI, cnt_tS, cnt1_1, cnt1_0, cnt2_1, cnt3_1, cnt5_1, cnt6_1, cnt8_1, nx_0, nx_1, nx_2, nx_3, nx_4, nx_5, nx_6, nxc_0, nxc_1, nxc_2, nxc_3, nxc_4, nxc_5]
  rw [mid_len hi]
  refine prP_lss (cndP_d (fun hlt => ?_) fun hge => ?_)
  · have hlt : i < l.length := by omega
    have hs := szL_at szHObj_pos hlt
    have h0 := szL_pos szHObj_pos (l.take i)
    replace hR := hR hlt trivial
    rw [szL_succ hlt, ← mid_set hlt] at hR
    have hln := mid_len (mk := mkHObj) (sz := szHObj) (k := k) hi
    have hg := mid_get (mk := mkHObj) (sz := szHObj) (k := k) hlt (by omega)
    have hsm := tR_same (f := tO) (cur := mid mkHObj szHObj k l i) (i := i) (by omega)
    rw [hg] at hsm
    rw [hsm]
    clear hg hsm
    generalize mid mkHObj szHObj k l i = cur at hln hR ⊢
    generalize hx : l[i] = o at hR hs ⊢
    generalize szL szHObj (l.take i) = q at hR hs h0 ⊢
    have hzz : k + (q + szHObj o) = k + q + 1 + 1 + 1 + 1 + 1 + 1 + o.field.length + 1 := by unfold szHObj; omega
    have hz0 : szHObj o = 7 + (o.field.length : Int) := rfl
    rw [hzz] at hR
    repeat' (first | simp only [cnt_tRs] | refine stS_HObj_live (by omega) ?_ | refine stS_HObj_gen (by omega) ?_ | refine stS_HObj_site (by omega) ?_ | refine stS_HObj_holds (by omega) ?_ | refine stS_HObj_roots (by omega) ?_ | refine stS_HObj_count (by omega) ?_ | refine stS_HObj_purple (by omega) ?_ | refine ldl_tRs (by omega) (by decide) rfl ?_ | refine laws_markIntS_c (by omega) ⟨by omega, by omega⟩ ?_ | simp only [sbS_HObj_field (cur := cur) (i := i) (by omega), npS_HObj_field (cur := cur) (i := i) (by omega)] | refine prP_eqd ?_ | refine prP_inc (by omega) ?_ | refine prP_add ⟨by omega, by omega⟩ ?_ | refine prP_rem (by omega) (by omega) ?_ | refine ixW_iv (by omega) ?_ | simp only [cnt_tO, cnt_tW, cnt_tP, cnt_tA, cnt_tN, cnt_tI, cnt_tS, cnt1_1, cnt1_0, cnt2_1, cnt3_1, cnt5_1, cnt6_1, cnt8_1, nx_0, nx_1, nx_2, nx_3, nx_4, nx_5, nx_6, nxc_0, nxc_1, nxc_2, nxc_3, nxc_4, nxc_5])
    exact hR
  · have : i = l.length := by omega
    subst this
    rw [List.take_length, mid_all]; exact h
theorem laws_heldObjS_c {k : Int} {l : List HObj} {K : J2} (hl : (l.length : Int) < 2 ^ 60) (hk : 0 ≤ k) (hb : k + szL szHObj l < 2 ^ 60) (h : K [I (k + szL szHObj l)] []) : cl2 ⟨Try.prog, w0⟩ 132 laws_heldObjS.sg [I k] [tR tO (mkL mkHObj szHObj k l)] K := by
  refine laws_heldObjS.cl2 ?_
  unfold laws_heldObjS.txt
  simp only [cnt_tO, cnt_tW, cnt_tP, cnt_tA, cnt_tN, cnt_tI, cnt_tS, cnt1_1, cnt1_0, cnt2_1, cnt3_1, cnt5_1, cnt6_1, cnt8_1, nx_0, nx_1, nx_2, nx_3, nx_4, nx_5, nx_6, nxc_0, nxc_1, nxc_2, nxc_3, nxc_4, nxc_5]
  rw [mkL_len]
  refine loopP_from (fun i => [I (k + szL szHObj (l.take i)), iv i]) (fun _ => []) l.length (fun _ => True) (by simp [szL, iv_eq]) rfl trivial (fun R i hi hP hR => ?_)
  refine prP_lss (cndP_d (fun hlt => ?_) fun hge => ?_)
  · have hlt : i < l.length := by omega
    have hs := szL_at szHObj_pos hlt
    have h0 := szL_pos szHObj_pos (l.take i)
    replace hR := hR hlt trivial
    rw [szL_succ hlt] at hR
    have hln := mkL_len (mk := mkHObj) (sz := szHObj) l k
    have hM := mkL_get (mk := mkHObj) (sz := szHObj) (k := k) hlt (by omega)
    have hf := sb_HObj_field (l := mkL mkHObj szHObj k l) (i := i) (by omega)
    rw [hM] at hf
    rw [show (mkHObj (k + szL szHObj (l.take i)) l[i]).field = marks (k + szL szHObj (l.take i) + 1 + 1 + 1 + 1 + 1 + 1) l[i].field.length from rfl] at hf
    generalize hx : l[i] = o at hR hs hM hf ⊢
    generalize szL szHObj (l.take i) = q at hR hs h0 hM hf ⊢
    have hzz : k + (q + szHObj o) = k + q + 1 + 1 + 1 + 1 + 1 + 1 + o.field.length + 1 := by unfold szHObj; omega
    have hz0 : szHObj o = 7 + (o.field.length : Int) := rfl
    rw [hzz] at hR
    repeat' (first | rw [hf] | refine ldl_tR (by omega) (by decide) (by rw [hM]; rfl) ?_ | refine laws_heldIntS_c (by omega) ⟨by omega, by omega⟩ ?_ | refine ldc_tR0 (by omega) (by rw [hM]; rfl) ?_ | refine ldc_tR (by omega) (by decide) (by rw [hM]; rfl) ?_ | refine cndP_no (fun h => h rfl) ?_ | refine cndP_no (by first | with_reducible assumption | omega) ?_ | refine prP_lss ?_ | refine prP_eqd ?_ | refine prP_ned ?_ | refine prP_notd ?_ | refine prP_inc (by omega) ?_ | refine prP_add ⟨by omega, by omega⟩ ?_ | refine prP_rem (by omega) (by omega) ?_ | refine ixW_iv (by omega) ?_)
    exact hR
  · have : i = l.length := by omega
    subst this
    rw [List.take_length]; exact h
end Go.Proofs.Ytnhicpkhkaihoaa.P
