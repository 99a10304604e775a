/- A part of the proof. -/
import Derived.Test.YtnhicpkhkaihoaaCgHpR
import Derived.Test.YtnhicpkhkaihoaaCgHpG
/- Collecting: the walks. -/
namespace Go.Proofs.Ytnhicpkhkaihoaa.P
open Go Go.Proofs.Ytnhicpkhkaihoaa Go.Proofs.Ytnhicpkhkaihoaa.Eng
set_option linter.unusedVariables false
set_option maxHeartbeats 4000000
set_option linter.unusedVariables false
set_option linter.unusedSimpArgs false
attribute [local irreducible] prP gP gE gF cndP ixW ldc ldg ldl stc stg scW mkW apW loopP cl2 joinP pre2 selW
variable {w0 : World}
theorem cnts_step {os : List HObj} {i : Nat} (hi : i < os.length) : (os.take (i + 1)).map (·.count) = (os.take i).map (·.count) ++ [(ob os i).count] := by
  rw [List.take_succ_eq_append_getElem hi, List.map_append, ob_eq hi]; rfl
theorem impl_TrialNew_c {os : List HObj} {b c d : List T} {K : J2} (hol : os.length = 8) (h : K [] [tI (os.map (·.count)), tI (List.replicate 8 0)]) : cl2 ⟨Try.prog, w0⟩ 219 impl_TrialNew.sg [] [tR tO os, b, c, d] K := by
  refine impl_TrialNew.cl2 ?_
  unfold impl_TrialNew.txt
  simp only [cnt_tO, cnt_tW, cnt_tP, cnt_tA, cnt_tN, cnt_tI, cnt_tS, cnt1_1, cnt1_0, cnt2_1, cnt3_1, cnt5_1, cnt6_1, cnt8_1, nx_0, nx_1, nx_2, nx_3, nx_4, nx_5, nx_6, nxc_0, nxc_1, nxc_2, nxc_3, nxc_4, nxc_5]
  refine loopP_from (fun i => [iv os.length, iv i]) (fun i => [tI ((os.take i).map (·.count)), tI (List.replicate i 0)]) os.length (fun _ => True) rfl rfl trivial (fun R i hi hP hR => ?_)
  have hln : ((os.take i).map (·.count)).length = i := by simp; omega
  have hl2 : (List.replicate i (0 : Int)).length = i := List.length_replicate
  simp only [cnt_tO, cnt_tW, cnt_tP, cnt_tA, cnt_tN, cnt_tI, cnt_tS, cnt1_1, cnt1_0, cnt2_1, cnt3_1, cnt5_1, cnt6_1, cnt8_1, nx_0, nx_1, nx_2, nx_3, nx_4, nx_5, nx_6, nxc_0, nxc_1, nxc_2, nxc_3, nxc_4, nxc_5]
  refine prP_lss (cndP_d (fun hlt => ?_) fun hge => ?_)
  · have hlt : i < os.length := by omega
    replace hR := hR hlt trivial
    rw [cnts_step hlt, ← tI_snoc, List.replicate_succ', ← tI_snoc] at hR
    refine joinP_k (ixW_iv hlt (ldg_ob hlt ?_))
    simp only [tvO_5]
    exact prP_lss (cndP_yes (by omega) (apW_p rfl (by omega) (apW_p rfl (by omega) (prP_inc (by omega) hR))))
  · have : i = os.length := by omega
    subst this
    rw [List.take_length, hol]; exact h
theorem spec_TrialNew_c {os : List HObj} {b c d : List T} {K : J2} (hol : os.length = 8) (h : K [] [tI (os.map (·.count)), tI (List.replicate 8 0)]) : cl2 ⟨Try.prog, w0⟩ 194 spec_TrialNew.sg [] [tR tO os, b, c, d] K := by
  refine spec_TrialNew.cl2 ?_
  unfold spec_TrialNew.txt
  simp only [cnt_tO, cnt_tW, cnt_tP, cnt_tA, cnt_tN, cnt_tI, cnt_tS, cnt1_1, cnt1_0, cnt2_1, cnt3_1, cnt5_1, cnt6_1, cnt8_1, nx_0, nx_1, nx_2, nx_3, nx_4, nx_5, nx_6, nxc_0, nxc_1, nxc_2, nxc_3, nxc_4, nxc_5]
  refine loopP_from (fun i => [iv i]) (fun i => [tI ((os.take i).map (·.count)), tI (List.replicate i 0)]) os.length (fun _ => True) rfl rfl trivial (fun R i hi hP hR => ?_)
  have hln : ((os.take i).map (·.count)).length = i := by simp; omega
  have hl2 : (List.replicate i (0 : Int)).length = i := List.length_replicate
  simp only [cnt_tO, cnt_tW, cnt_tP, cnt_tA, cnt_tN, cnt_tI, cnt_tS, cnt1_1, cnt1_0, cnt2_1, cnt3_1, cnt5_1, cnt6_1, cnt8_1, nx_0, nx_1, nx_2, nx_3, nx_4, nx_5, nx_6, nxc_0, nxc_1, nxc_2, nxc_3, nxc_4, nxc_5]
  refine prP_lss (gE_x (gP_dt (fun hlt => ?_) fun hge => ?_))
  · have hlt' : i < os.length := by omega
    replace hR := hR hlt' trivial
    rw [cnts_step hlt', ← tI_snoc, List.replicate_succ', ← tI_snoc] at hR
    refine prP_lss (pk_y hlt rfl (cndP_yes (by omega) ?_))
    exact ixW_iv hlt' (ldc_ob (v := I (ob os i).count) hlt' (by decide) rfl (apW_p rfl (by omega) (apW_p rfl (by omega) (prP_inc (by omega) hR))))
  · have : i = os.length := by omega
    subst this
    refine pk_n hge rfl (cndP_F ?_)
    rw [List.take_length, hol]; exact h
theorem impl_Whites_c {cs col : List Int} {W : Nat → Bool} {K : J2} (hl : col.length = 8) (hw : ∀ k, k < 8 → (gI col k = 2 ↔ W k = true)) (h : K [] [tI (whites W 8)]) : cl2 ⟨Try.prog, w0⟩ 222 impl_Whites.sg [] [tI cs, tI col] K := by
  refine impl_Whites.cl2 ?_
  unfold impl_Whites.txt
  simp only [cnt_tO, cnt_tW, cnt_tP, cnt_tA, cnt_tN, cnt_tI, cnt_tS, cnt1_1, cnt1_0, cnt2_1, cnt3_1, cnt5_1, cnt6_1, cnt8_1, nx_0, nx_1, nx_2, nx_3, nx_4, nx_5, nx_6, nxc_0, nxc_1, nxc_2, nxc_3, nxc_4, nxc_5]
  refine loopP_from (fun i => [iv col.length, iv i]) (fun i => [tI (whites W i)]) col.length (fun _ => True) rfl rfl trivial (fun R i hi hP hR => ?_)
  have hln : (whites W i).length ≤ i := pick_len (fun i => by split <;> simp) i
  simp only [cnt_tO, cnt_tW, cnt_tP, cnt_tA, cnt_tN, cnt_tI, cnt_tS, cnt1_1, cnt1_0, cnt2_1, cnt3_1, cnt5_1, cnt6_1, cnt8_1, nx_0, nx_1, nx_2, nx_3, nx_4, nx_5, nx_6, nxc_0, nxc_1, nxc_2, nxc_3, nxc_4, nxc_5]
  refine prP_lss (cndP_d (fun hlt => ?_) fun hge => ?_)
  · have hlt : i < col.length := by omega
    replace hR := hR hlt trivial
    have hwi := hw i (by omega)
    refine joinP_k (ixW_iv hlt (ldI hlt (prP_eqd (cndP_d (fun h2 => ?_) fun h2 => ?_))))
    · have e : whites W (i + 1) = whites W i ++ [(i : Int)] := by show whites W i ++ (if W i = true then [(i : Int)] else []) = _; rw [if_pos (hwi.1 h2)]
      rw [e, ← tI_snoc] at hR
      exact apW_p rfl (by omega) (prP_inc (by omega) hR)
    · have e : whites W (i + 1) = whites W i := by show whites W i ++ (if W i = true then [(i : Int)] else []) = _; rw [if_neg (fun hh => h2 (hwi.2 hh)), List.append_nil]
      rw [e] at hR
      exact prP_inc (by omega) hR
  · have : i = col.length := by omega
    subst this
    rw [hl]; exact h
theorem spec_Whites_c {cs col : List Int} {W : Nat → Bool} {K : J2} (hl : col.length = 8) (hw : ∀ k, k < 8 → (gI col k = 2 ↔ W k = true)) (h : K [] [tI (whites W 8)]) : cl2 ⟨Try.prog, w0⟩ 197 spec_Whites.sg [] [tI cs, tI col] K := by
  refine spec_Whites.cl2 ?_
  unfold spec_Whites.txt
  simp only [cnt_tO, cnt_tW, cnt_tP, cnt_tA, cnt_tN, cnt_tI, cnt_tS, cnt1_1, cnt1_0, cnt2_1, cnt3_1, cnt5_1, cnt6_1, cnt8_1, nx_0, nx_1, nx_2, nx_3, nx_4, nx_5, nx_6, nxc_0, nxc_1, nxc_2, nxc_3, nxc_4, nxc_5]
  refine loopP_from (fun i => [iv i]) (fun i => [tI (whites W i)]) col.length (fun _ => True) rfl rfl trivial (fun R i hi hP hR => ?_)
  have hln : (whites W i).length ≤ i := pick_len (fun i => by split <;> simp) i
  simp only [cnt_tO, cnt_tW, cnt_tP, cnt_tA, cnt_tN, cnt_tI, cnt_tS, cnt1_1, cnt1_0, cnt2_1, cnt3_1, cnt5_1, cnt6_1, cnt8_1, nx_0, nx_1, nx_2, nx_3, nx_4, nx_5, nx_6, nxc_0, nxc_1, nxc_2, nxc_3, nxc_4, nxc_5]
  refine prP_lss (cndP_d (fun hlt => ?_) fun hge => ?_)
  · have hlt : i < col.length := by omega
    replace hR := hR hlt trivial
    have hwi := hw i (by omega)
    refine joinP_k (ixW_iv hlt (ldI hlt (prP_eqd (cndP_d (fun h2 => ?_) fun h2 => ?_))))
    · have e : whites W (i + 1) = whites W i ++ [(i : Int)] := by show whites W i ++ (if W i = true then [(i : Int)] else []) = _; rw [if_pos (hwi.1 h2)]
      rw [e, ← tI_snoc] at hR
      exact apW_p rfl (by omega) (prP_inc (by omega) hR)
    · have e : whites W (i + 1) = whites W i := by show whites W i ++ (if W i = true then [(i : Int)] else []) = _; rw [if_neg (fun hh => h2 (hwi.2 hh)), List.append_nil]
      rw [e] at hR
      exact prP_inc (by omega) hR
  · have : i = col.length := by omega
    subst this
    rw [hl]; exact h
theorem MK.start {os : List HObj} (hol : os.length = 8) (hc : ∀ o ∈ os, F64 o.count) : MK os (fun i => (ob os i).count) [] (os.map (·.count)) (List.replicate 8 0) := by
  have hz : ∀ k, k < 8 → gI (List.replicate 8 (0 : Int)) k = 0 := fun k hk => by unfold gI; rw [List.getD_eq_getElem?_getD, List.getElem?_replicate, if_pos hk]; rfl
  have hcs : ∀ i, i < 8 → gI (os.map (·.count)) i = (ob os i).count := fun i hi => by
    rw [← gI_eq (by simp; omega), List.getElem_map, ob_eq (by omega)]
  have hF : ∀ i, i < 8 → F64 (ob os i).count := fun i hi => hc _ (ob_mem (by omega))
  refine ⟨⟨by simp [hol], by simp⟩, fun i hi => by rw [hcs i hi]; exact hF i hi, fun k hk h1 => ?_, fun k hk h1 => ⟨hz k hk, ?_⟩, fun i hi => ?_⟩
  · rw [hz k hk] at h1; omega
  · rintro ⟨b, hb, _⟩; simp at hb
  · have : S os (isC (List.replicate 8 0) 1) i = 0 := sumTo_zero fun k hk => by unfold isC; rw [hz k hk]; rfl
    rw [hcs i hi, this, Int.sub_zero, w64_id (hF i hi)]
theorem out_w {os : List HObj} {W : Nat → Bool} {j : Nat} (hj : j < (whites W 8).length) {x : Nat} (hx : gI (whites W 8) j = (x : Int)) : (fun i : Nat => if ((i : Nat) : Int) ∈ (whites W 8).take (j + 1) then freeO (ob os i).gen else ob os i) = fun i => if i = x then freeO (ob os x).gen else (if ((i : Nat) : Int) ∈ (whites W 8).take j then freeO (ob os i).gen else ob os i) := by
  funext i
  rw [List.take_succ_eq_append_getElem hj, gI_eq hj, hx]
  simp only [List.mem_append, List.mem_singleton]
  by_cases hi : i = x
  · subst hi; simp
  · have : ¬ (i : Int) = (x : Int) := by omega
    simp [hi, this]
/-- What slot i is before its last look. -/
def preO (os : List HObj) (W : Nat → Bool) (i : Nat) : HObj := if W i = true then freeO (ob os i).gen else ob os i
theorem pre_mid (os : List HObj) (W : Nat → Bool) (i : Nat) : { preO os W i with purple := false } = midO os W i := by
  unfold preO midO
  split <;> rfl
theorem fin_same (os : List HObj) (W : Nat → Bool) (i : Nat) : (finO os W i).live = (midO os W i).live ∧ (finO os W i).gen = (midO os W i).gen ∧ (finO os W i).field = (midO os W i).field := by
  unfold finO; split <;> exact ⟨rfl, rfl, rfl⟩
theorem pre_same (os : List HObj) (W : Nat → Bool) (i : Nat) : (preO os W i).live = (midO os W i).live ∧ (preO os W i).gen = (midO os W i).gen ∧ (preO os W i).field = (midO os W i).field := by
  rw [← pre_mid]; exact ⟨rfl, rfl, rfl⟩
theorem midO_len {os : List HObj} (hof : ∀ o ∈ os, OF o) (hol : os.length = 8) (W : Nat → Bool) {i : Nat} (hi : i < 8) : (midO os W i).field.length = 3 := by
  unfold midO
  split
  · rfl
  · exact (hof _ (ob_mem (by omega))).len
theorem impl_Collect_c {h : Hp} {K : J2} (st : St h) (hc : ∀ o ∈ h.objs, F64 o.count) (hK : K [] [tR tO (collM h.objs h.buffer).1, tR tW h.weaks, [], tS h.sites, tI (collM h.objs h.buffer).2]) : cl2 ⟨Try.prog, w0⟩ 188 impl_Collect.sg [] (trees h) K := by
  refine impl_Collect.cl2 ?_
  unfold impl_Collect.txt
  refine impl_copyHeap_c st.fits ?_
  obtain ⟨os, ws, buf, ss⟩ := h
  have hol : os.length = 8 := st.ol
  have hof : ∀ o ∈ os, OF o := st.of
  have hb : buf.length ≤ 100 := st.bl
  have hbf : ∀ x ∈ buf, F64 x := st.bf
  simp only at hc hK
  simp only [trees]
  obtain ⟨ct, hct⟩ : ∃ ct : Nat → Int, ct = fun i => (ob os i).count := ⟨_, rfl⟩
  obtain ⟨W, hW⟩ : ∃ W, W = whiteB os ct buf := ⟨_, rfl⟩
  unfold collM at hK
  rw [← hct, ← hW] at hK
  simp only [cnt_tO, cnt_tW, cnt_tP, cnt_tA, cnt_tN, cnt_tI, cnt_tS, cnt1_1, cnt1_0, cnt2_1, cnt3_1, cnt5_1, cnt6_1, cnt8_1, nx_0, nx_1, nx_2, nx_3, nx_4, nx_5, nx_6, nxc_0, nxc_1, nxc_2, nxc_3, nxc_4, nxc_5]
  refine prP_ned (cndP_no (by omega) (impl_TrialNew_c hol ?_))
  refine loopP_wf (α := Nat × List Int × List Int) (fun q => [iv buf.length, iv q.1]) (fun q => [tR tO os, tR tW ws, tI buf, tS ss, tI q.2.1, tI q.2.2]) (fun q => buf.length - q.1) (fun q => q.1 ≤ buf.length ∧ MK os ct (buf.take q.1) q.2.1 q.2.2) (0, os.map (·.count), List.replicate 8 0) rfl rfl ⟨Nat.zero_le _, by rw [hct]; exact MK.start hol hc⟩ (fun R q hq hR => ?_)
  obtain ⟨i, cs, col⟩ := q
  obtain ⟨hi, mk⟩ := hq
  simp only at hi mk
  simp only [cnt_tO, cnt_tW, cnt_tP, cnt_tA, cnt_tN, cnt_tI, cnt_tS, cnt1_1, cnt1_0, cnt2_1, cnt3_1, cnt5_1, cnt6_1, cnt8_1, nx_0, nx_1, nx_2, nx_3, nx_4, nx_5, nx_6, nxc_0, nxc_1, nxc_2, nxc_3, nxc_4, nxc_5]
  refine prP_lss (cndP_d (fun hlt => ?_) fun hge => ?_)
  · have hlt : i < buf.length := by omega
    have hx := hbf _ (gI_mem hlt)
    have nx := fun cs' col' (m : MK os ct (buf.take i ++ [gI buf i]) cs' col') => hR (i + 1, cs', col') ⟨by simp only; omega, by simp only; rw [List.take_succ_eq_append_getElem hlt, gI_eq hlt]; exact m⟩ (by simp only; omega)
    refine ixW_iv hlt (ldI hlt (impl_SlotOf_c hx (by omega) (impl_MarkGray_c hol hof mk.len.1 mk.len.2 mk.f (fun hn => ?_) fun s hs s8 cs' col' p => ?_)))
    · exact prP_inc (by omega) (nx _ _ (mk.none hn))
    · exact prP_inc (by omega) (nx _ _ (mk.some hs s8 p))
  have : i = buf.length := by omega
  subst this
  rw [List.take_length] at mk
  refine loopP_wf (α := Nat × List Int × List Int) (fun q => [iv buf.length, iv q.1]) (fun q => [tR tO os, tR tW ws, tI buf, tS ss, tI q.2.1, tI q.2.2]) (fun q => buf.length - q.1) (fun q => q.1 ≤ buf.length ∧ SC os ct buf (buf.take q.1) q.2.1 q.2.2) (0, cs, col) rfl rfl ⟨Nat.zero_le _, SC.start mk⟩ (fun R q hq hR => ?_)
  obtain ⟨i, cs, col⟩ := q
  obtain ⟨hi, sc⟩ := hq
  simp only at hi sc
  simp only [cnt_tO, cnt_tW, cnt_tP, cnt_tA, cnt_tN, cnt_tI, cnt_tS, cnt1_1, cnt1_0, cnt2_1, cnt3_1, cnt5_1, cnt6_1, cnt8_1, nx_0, nx_1, nx_2, nx_3, nx_4, nx_5, nx_6, nxc_0, nxc_1, nxc_2, nxc_3, nxc_4, nxc_5]
  refine prP_lss (cndP_d (fun hlt => ?_) fun hge => ?_)
  · have hlt : i < buf.length := by omega
    have hx := hbf _ (gI_mem hlt)
    have nx := fun cs' col' (m : SC os ct buf (buf.take i ++ [gI buf i]) cs' col') => hR (i + 1, cs', col') ⟨by simp only; omega, by simp only; rw [List.take_succ_eq_append_getElem hlt, gI_eq hlt]; exact m⟩ (by simp only; omega)
    refine ixW_iv hlt (ldI hlt (impl_SlotOf_c hx (by omega) (impl_ScanFrom_c hol hof sc.si (fun hn => ?_) fun s hs s8 cs' col' p => ?_)))
    · exact prP_inc (by omega) (nx _ _ (sc.none hn))
    · exact prP_inc (by omega) (nx _ _ (sc.some hs s8 p))
  have : i = buf.length := by omega
  subst this
  rw [List.take_length] at sc
  have wh := sc.stop
  rw [← hW] at wh
  refine impl_Whites_c sc.si.len.2 wh ?_
  clear hR sc mk
  have hwn : (whites W 8).length ≤ 8 := pick_len (fun i => by split <;> simp) 8
  refine loopP_from (fun j => [iv (whites W 8).length, iv j]) (fun j => [tI (((whites W 8).take j).map fun x => idOf x (ob os x.toNat).gen), tI (whites W 8), tR tO (mk8 fun i => if ((i : Nat) : Int) ∈ (whites W 8).take j then freeO (ob os i).gen else ob os i), tR tW ws, tI buf, tS ss]) (whites W 8).length (fun _ => True) (by simp only [cnt_tO, cnt_tW, cnt_tP, cnt_tA, cnt_tN, cnt_tI, cnt_tS, cnt1_1, cnt1_0, cnt2_1, cnt3_1, cnt5_1, cnt6_1, cnt8_1, nx_0, nx_1, nx_2, nx_3, nx_4, nx_5, nx_6, nxc_0, nxc_1, nxc_2, nxc_3, nxc_4, nxc_5]; rfl) ?_ trivial (fun R j hj hP hR => ?_)
  · simp only [List.take_zero, List.map_nil, List.not_mem_nil, if_false]
    rw [← mk8_self hol]; rfl
  have hln : (((whites W 8).take j).map fun x => idOf x (ob os x.toNat).gen).length = j := by simp; omega
  simp only [cnt_tO, cnt_tW, cnt_tP, cnt_tA, cnt_tN, cnt_tI, cnt_tS, cnt1_1, cnt1_0, cnt2_1, cnt3_1, cnt5_1, cnt6_1, cnt8_1, nx_0, nx_1, nx_2, nx_3, nx_4, nx_5, nx_6, nxc_0, nxc_1, nxc_2, nxc_3, nxc_4, nxc_5]
  simp only [mk8_len]
  refine prP_lss (cndP_d (fun hlt => ?_) fun hge => ?_)
  · have hlt : j < (whites W 8).length := by omega
    replace hR := hR hlt trivial
    obtain ⟨x, x8, hx, hwx⟩ := mem_whites.1 (gI_mem hlt)
    have xl : x < os.length := by omega
    rw [out_w hlt hx, List.take_succ_eq_append_getElem hlt, List.map_append, gI_eq hlt, hx, ← mk8_set x8] at hR
    refine ixW_iv hlt (ldI hlt ?_)
    rw [hx]
    refine ixW_iv xl (ldc_ob (v := I (ob os x).gen) xl (by decide) rfl (impl_IdOf_c (apW_p rfl (by omega) (ixW_iv xl (ldc_ob (v := I (ob os x).gen) xl (by decide) rfl (impl_free_c (ixW_iv (by omega) ?_)))))))
    refine stg_tR (f := tO) (by rw [mk8_len]; exact x8) (y := freeO (ob os x).gen) rfl (prP_inc (by omega) ?_)
    simp only [List.map_cons, List.map_nil, Int.toNat_natCast] at hR
    rw [← tI_snoc] at hR
    exact hR
  have : j = (whites W 8).length := by omega
  subst this
  have e1 : (fun i : Nat => if ((i : Nat) : Int) ∈ (whites W 8).take (whites W 8).length then freeO (ob os i).gen else ob os i) = fun i => if ((i : Nat) : Int) ∈ whites W 8 then freeO (ob os i).gen else ob os i := by rw [List.take_length]
  have e2 : mk8 (fun i => if ((i : Nat) : Int) ∈ whites W 8 then freeO (ob os i).gen else ob os i) = mk8 (preO os W) := mk8_congr fun i hi => by
    unfold preO
    by_cases hw : W i = true
    · rw [if_pos hw, if_pos (mem_whites.2 ⟨i, hi, rfl, hw⟩)]
    · rw [if_neg hw, if_neg fun hm => hw (by obtain ⟨k, _, h2, h3⟩ := mem_whites.1 hm; have : k = i := by omega
                                             subst this; exact h3)]
  rw [e1, e2, List.take_length, freed_whites]
  clear hR e1 e2
  refine loopP_from (fun i => [iv 8, iv i]) (fun i => [tI (freedW os W 8), tR tO (mk8 fun k => if k < i then finO os W k else preO os W k), tR tW ws, tI buf, tS ss]) 8 (fun _ => True) rfl rfl trivial (fun R i hi hP hR => ?_)
  simp only [cnt_tO, cnt_tW, cnt_tP, cnt_tA, cnt_tN, cnt_tI, cnt_tS, cnt1_1, cnt1_0, cnt2_1, cnt3_1, cnt5_1, cnt6_1, cnt8_1, nx_0, nx_1, nx_2, nx_3, nx_4, nx_5, nx_6, nxc_0, nxc_1, nxc_2, nxc_3, nxc_4, nxc_5]
  simp only [mk8_len]
  refine prP_lss (cndP_d (fun hlt => ?_) fun hge => ?_)
  · have hlt : i < 8 := by omega
    replace hR := hR hlt trivial
    have hml : i < (mk8 fun k => if k < i then finO os W k else preO os W k).length := by rw [mk8_len]; exact hlt
    have hoi : (mk8 fun k => if k < i then finO os W k else preO os W k)[i] = preO os W i := by rw [ob_eq hml, mk8_ob hlt, if_neg (by omega)]
    have hset : ∀ v, v = finO os W i → (mk8 fun k => if k < i then finO os W k else preO os W k).set i v = mk8 fun k => if k < i + 1 then finO os W k else preO os W k := fun v hv => by
      rw [mk8_set hlt]
      refine mk8_congr fun k hk => ?_
      by_cases h1 : k = i
      · subst h1; rw [if_pos rfl, if_pos (by omega), hv]
      · rw [if_neg h1]
        by_cases h2 : k < i
        · rw [if_pos h2, if_pos (by omega)]
        · rw [if_neg h2, if_neg (by omega)]
    have hin : ∀ v, v = midO os W i → inE ((mk8 fun k => if k < i then finO os W k else preO os W k).set i v) i = inE (mk8 (midO os W)) i := fun v hv => by
      rw [mk8_set hlt]
      refine inE_eq (by rw [mk8_len, mk8_len]) fun k hk => ?_
      rw [mk8_len] at hk
      rw [mk8_ob hk, mk8_ob hk]
      by_cases h1 : k = i
      · subst h1; rw [if_pos rfl, hv]; exact ⟨rfl, rfl, rfl⟩
      · rw [if_neg h1]
        by_cases h2 : k < i
        · rw [if_pos h2]; exact fin_same os W k
        · rw [if_neg h2]; exact pre_same os W k
    have hlen3 : ∀ o ∈ (mk8 fun k => if k < i then finO os W k else preO os W k).set i (midO os W i), (o.field.length : Int) ≤ 1048576 := fun o ho => by
      rw [mk8_set hlt] at ho
      obtain ⟨k, hk, rfl⟩ := mk8_mem ho
      have hm := midO_len hof hol W hk
      by_cases h1 : k = i
      · subst h1; rw [if_pos rfl]; omega
      · rw [if_neg h1]
        by_cases h2 : k < i
        · rw [if_pos h2, (fin_same os W k).2.2]; omega
        · rw [if_neg h2, (pre_same os W k).2.2]; omega
    generalize (mk8 fun k => if k < i then finO os W k else preO os W k) = M at hml hoi hset hin hlen3 ⊢
    have hM8 : M.length = 8 := by have := congrArg List.length (hset (finO os W i) rfl); rw [List.length_set, mk8_len] at this; exact this
    refine joinP_k (ixW_iv hlt ?_)
    refine stc_tR (f := tO) (c := 7) (y := { M[i] with purple := false }) hml (by decide) rfl rfl ?_
    rw [hoi, pre_mid]
    refine ldc_tRs0 (v := .bool (midO os W i).live) hml rfl ?_
    cases hv : (midO os W i).live with
    | true =>
      refine cndP_T (ldc_tRs (v := I (midO os W i).holds) hml (by decide) rfl (ldc_tRs (v := I (midO os W i).roots) hml (by decide) rfl (prP_addw ?_)))
      refine impl_InEdges_c ⟨by omega, by omega⟩ (by rw [List.length_set, hM8]; decide) hlen3 ?_
      rw [hin _ rfl]
      refine prP_addw (stS_HObj_count hml ?_)
      rw [hset _ (by unfold finO; rw [if_pos hv])]
      exact prP_inc (by omega) hR
    | false =>
      refine cndP_F ?_
      rw [hset _ (by unfold finO; rw [if_neg (by rw [hv]; decide)])]
      exact prP_inc (by omega) hR
  · have : i = 8 := by omega
    subst this
    rw [mk8_congr (g := finO os W) fun k hk => if_pos hk]
    exact hK
theorem nxc_6 {a b c d e f g : List T} {l : List (List T)} : nxc (a :: b :: c :: d :: e :: f :: g :: l) 6 = g := rfl
theorem spec_Collect_c {h : Hp} {K : J2} (st : St h) (hc : ∀ o ∈ h.objs, F64 o.count) (hK : K [] [tR tO (collM h.objs h.buffer).1, tR tW h.weaks, [], tS h.sites, tI (collM h.objs h.buffer).2]) : cl2 ⟨Try.prog, w0⟩ 140 spec_Collect.sg [] (trees h) K := by
  refine spec_Collect.cl2 ?_
  unfold spec_Collect.txt
  refine spec_l5Copy_c st.fits ?_
  obtain ⟨os, ws, buf, ss⟩ := h
  have hol : os.length = 8 := st.ol
  have hof : ∀ o ∈ os, OF o := st.of
  have hb : buf.length ≤ 100 := st.bl
  have hbf : ∀ x ∈ buf, F64 x := st.bf
  simp only at hc hK
  simp only [trees]
  obtain ⟨ct, hct⟩ : ∃ ct : Nat → Int, ct = fun i => (ob os i).count := ⟨_, rfl⟩
  obtain ⟨W, hW⟩ : ∃ W, W = whiteB os ct buf := ⟨_, rfl⟩
  unfold collM at hK
  rw [← hct, ← hW] at hK
  simp only [cnt_tO, cnt_tW, cnt_tP, cnt_tA, cnt_tN, cnt_tI, cnt_tS, cnt1_1, cnt1_0, cnt2_1, cnt3_1, cnt5_1, cnt6_1, cnt8_1, nx_0, nx_1, nx_2, nx_3, nx_4, nx_5, nx_6, nxc_0, nxc_1, nxc_2, nxc_3, nxc_4, nxc_5]
  refine prP_ned (cndP_no (by omega) (spec_TrialNew_c hol ?_))
  refine loopP_wf (α := Nat × List Int × List Int) (fun q => [iv q.1]) (fun q => [[], tR tO os, tR tW ws, tI buf, tS ss, tI q.2.1, tI q.2.2]) (fun q => buf.length - q.1) (fun q => q.1 ≤ buf.length ∧ MK os ct (buf.take q.1) q.2.1 q.2.2) (0, os.map (·.count), List.replicate 8 0) rfl rfl ⟨Nat.zero_le _, by rw [hct]; exact MK.start hol hc⟩ (fun R q hq hR => ?_)
  obtain ⟨i, cs, col⟩ := q
  obtain ⟨hi, mk⟩ := hq
  simp only at hi mk
  simp only [cnt_tO, cnt_tW, cnt_tP, cnt_tA, cnt_tN, cnt_tI, cnt_tS, cnt1_1, cnt1_0, cnt2_1, cnt3_1, cnt5_1, cnt6_1, cnt8_1, nx_0, nx_1, nx_2, nx_3, nx_4, nx_5, nx_6, nxc_0, nxc_1, nxc_2, nxc_3, nxc_4, nxc_5]
  simp only [nxc_6]
  refine prP_lss (cndP_d (fun hlt => ?_) fun hge => ?_)
  · have hlt : i < buf.length := by omega
    have hx := hbf _ (gI_mem hlt)
    have nx := fun cs' col' (m : MK os ct (buf.take i ++ [gI buf i]) cs' col') => hR (i + 1, cs', col') ⟨by simp only; omega, by simp only; rw [List.take_succ_eq_append_getElem hlt, gI_eq hlt]; exact m⟩ (by simp only; omega)
    refine ixW_iv hlt (ldI hlt (spec_SlotOf_c hx (by omega) (spec_MarkGray_c hol hof mk.len.1 mk.len.2 mk.f (fun hn => ?_) fun s hs s8 cs' col' p => ?_)))
    · exact prP_inc (by omega) (nx _ _ (mk.none hn))
    · exact prP_inc (by omega) (nx _ _ (mk.some hs s8 p))
  have : i = buf.length := by omega
  subst this
  rw [List.take_length] at mk
  refine loopP_wf (α := Nat × List Int × List Int) (fun q => [iv q.1]) (fun q => [[], tR tO os, tR tW ws, tI buf, tS ss, tI q.2.1, tI q.2.2]) (fun q => buf.length - q.1) (fun q => q.1 ≤ buf.length ∧ SC os ct buf (buf.take q.1) q.2.1 q.2.2) (0, cs, col) rfl rfl ⟨Nat.zero_le _, SC.start mk⟩ (fun R q hq hR => ?_)
  obtain ⟨i, cs, col⟩ := q
  obtain ⟨hi, sc⟩ := hq
  simp only at hi sc
  simp only [cnt_tO, cnt_tW, cnt_tP, cnt_tA, cnt_tN, cnt_tI, cnt_tS, cnt1_1, cnt1_0, cnt2_1, cnt3_1, cnt5_1, cnt6_1, cnt8_1, nx_0, nx_1, nx_2, nx_3, nx_4, nx_5, nx_6, nxc_0, nxc_1, nxc_2, nxc_3, nxc_4, nxc_5]
  simp only [nxc_6]
  refine prP_lss (cndP_d (fun hlt => ?_) fun hge => ?_)
  · have hlt : i < buf.length := by omega
    have hx := hbf _ (gI_mem hlt)
    have nx := fun cs' col' (m : SC os ct buf (buf.take i ++ [gI buf i]) cs' col') => hR (i + 1, cs', col') ⟨by simp only; omega, by simp only; rw [List.take_succ_eq_append_getElem hlt, gI_eq hlt]; exact m⟩ (by simp only; omega)
    refine ixW_iv hlt (ldI hlt (spec_SlotOf_c hx (by omega) (spec_ScanFrom_c hol hof sc.si (fun hn => ?_) fun s hs s8 cs' col' p => ?_)))
    · exact prP_inc (by omega) (nx _ _ (sc.none hn))
    · exact prP_inc (by omega) (nx _ _ (sc.some hs s8 p))
  have : i = buf.length := by omega
  subst this
  rw [List.take_length] at sc
  have wh := sc.stop
  rw [← hW] at wh
  refine spec_Whites_c sc.si.len.2 wh ?_
  clear hR sc mk
  have hwn : (whites W 8).length ≤ 8 := pick_len (fun i => by split <;> simp) 8
  refine loopP_from (fun i => [iv i]) (fun i => [tI (freedW os W i), tI (whites W 8), tR tO (mk8 fun k => if k < i then midO os W k else ob os k), tR tW ws, tI buf, tS ss]) 8 (fun _ => True) rfl ?_ trivial (fun R i hi hP hR => ?_)
  · simp only [Nat.not_lt_zero, if_false]
    rw [← mk8_self hol]; rfl
  have hln : (freedW os W i).length ≤ i := pick_len (fun i => by split <;> simp) i
  simp only [cnt_tO, cnt_tW, cnt_tP, cnt_tA, cnt_tN, cnt_tI, cnt_tS, cnt1_1, cnt1_0, cnt2_1, cnt3_1, cnt5_1, cnt6_1, cnt8_1, nx_0, nx_1, nx_2, nx_3, nx_4, nx_5, nx_6, nxc_0, nxc_1, nxc_2, nxc_3, nxc_4, nxc_5]
  simp only [nxc_6, mk8_len]
  refine prP_lss (cndP_d (fun hlt => ?_) fun hge => ?_)
  · have hlt : i < 8 := by omega
    replace hR := hR hlt trivial
    have hml : i < (mk8 fun k => if k < i then midO os W k else ob os k).length := by rw [mk8_len]; exact hlt
    have hoi : (mk8 fun k => if k < i then midO os W k else ob os k)[i] = ob os i := by rw [ob_eq hml, mk8_ob hlt, if_neg (by omega)]
    have hset : ∀ v, v = midO os W i → (mk8 fun k => if k < i then midO os W k else ob os k).set i v = mk8 fun k => if k < i + 1 then midO os W k else ob os k := fun v hv => by
      rw [mk8_set hlt]
      refine mk8_congr fun k hk => ?_
      by_cases h1 : k = i
      · subst h1; rw [if_pos rfl, if_pos (by omega), hv]
      · rw [if_neg h1]
        by_cases h2 : k < i
        · rw [if_pos h2, if_pos (by omega)]
        · rw [if_neg h2, if_neg (by omega)]
    generalize (mk8 fun k => if k < i then midO os W k else ob os k) = M at hml hoi hset ⊢
    have hM8 : M.length = 8 := by have := congrArg List.length (hset (midO os W i) rfl); rw [List.length_set, mk8_len] at this; exact this
    have io : i < os.length := by omega
    refine joinP_k (ixW_iv hlt ?_)
    refine stc_tR (f := tO) (c := 7) (y := { M[i] with purple := false }) hml (by decide) rfl rfl ?_
    rw [hoi]
    refine spec_l5Has_c (by omega) (cndP_d (fun hm => ?_) fun hm => ?_)
    · have hw : W i = true := by
        obtain ⟨k, _, h2, h3⟩ := mem_whites.1 hm
        have : k = i := by omega
        subst this; exact h3
      have ef : freedW os W (i + 1) = freedW os W i ++ [idOf i (ob os i).gen] := by show freedW os W i ++ (if W i = true then [idOf i (ob os i).gen] else []) = _; rw [if_pos hw]
      rw [ef, ← tI_snoc, ← hset (freeO (ob os i).gen) (by unfold midO; rw [if_pos hw])] at hR
      refine ixW_iv io (ldc_ob (v := I (ob os i).gen) io (by decide) rfl (spec_IdOf_c (apW_p rfl (by omega) (ixW_iv io (ldc_ob (v := I (ob os i).gen) io (by decide) rfl (spec_l5None_c ?_))))))
      simp only [cnt_tO, cnt_tW, cnt_tP, cnt_tA, cnt_tN, cnt_tI, cnt_tS, cnt1_1, cnt1_0, cnt2_1, cnt3_1, cnt5_1, cnt6_1, cnt8_1, nx_0, nx_1, nx_2, nx_3, nx_4, nx_5, nx_6, nxc_0, nxc_1, nxc_2, nxc_3, nxc_4, nxc_5]
      simp only [List.length_set, hM8]
      refine ixW_iv hlt (stg_tR (f := tO) (by rw [List.length_set]; exact hml) (y := freeO (ob os i).gen) rfl ?_)
      rw [List.set_set]
      exact prP_inc (by omega) hR
    · have hw : ¬ W i = true := fun hw => hm (mem_whites.2 ⟨i, hlt, rfl, hw⟩)
      have ef : freedW os W (i + 1) = freedW os W i := by show freedW os W i ++ (if W i = true then [idOf i (ob os i).gen] else []) = _; rw [if_neg hw, List.append_nil]
      rw [ef, ← hset { ob os i with purple := false } (by unfold midO; rw [if_neg hw])] at hR
      exact prP_inc (by omega) hR
  have : i = 8 := by omega
  subst this
  rw [mk8_congr (g := midO os W) fun k hk => if_pos hk]
  clear hR
  refine loopP_from (fun i => [iv i]) (fun i => [tI (freedW os W 8), tR tO (mk8 fun k => if k < i then finO os W k else midO os W k), tR tW ws, tI buf, tS ss]) 8 (fun _ => True) rfl rfl trivial (fun R i hi hP hR => ?_)
  simp only [cnt_tO, cnt_tW, cnt_tP, cnt_tA, cnt_tN, cnt_tI, cnt_tS, cnt1_1, cnt1_0, cnt2_1, cnt3_1, cnt5_1, cnt6_1, cnt8_1, nx_0, nx_1, nx_2, nx_3, nx_4, nx_5, nx_6, nxc_0, nxc_1, nxc_2, nxc_3, nxc_4, nxc_5]
  simp only [mk8_len]
  refine prP_lss (cndP_d (fun hlt => ?_) fun hge => ?_)
  · have hlt : i < 8 := by omega
    replace hR := hR hlt trivial
    have hml : i < (mk8 fun k => if k < i then finO os W k else midO os W k).length := by rw [mk8_len]; exact hlt
    have hoi : (mk8 fun k => if k < i then finO os W k else midO os W k)[i] = midO os W i := by rw [ob_eq hml, mk8_ob hlt, if_neg (by omega)]
    have hset : ∀ v, v = finO os W i → (mk8 fun k => if k < i then finO os W k else midO os W k).set i v = mk8 fun k => if k < i + 1 then finO os W k else midO os W k := fun v hv => by
      rw [mk8_set hlt]
      refine mk8_congr fun k hk => ?_
      by_cases h1 : k = i
      · subst h1; rw [if_pos rfl, if_pos (by omega), hv]
      · rw [if_neg h1]
        by_cases h2 : k < i
        · rw [if_pos h2, if_pos (by omega)]
        · rw [if_neg h2, if_neg (by omega)]
    have hin : inE (mk8 fun k => if k < i then finO os W k else midO os W k) i = inE (mk8 (midO os W)) i := by
      refine inE_eq (by rw [mk8_len, mk8_len]) fun k hk => ?_
      rw [mk8_len] at hk
      rw [mk8_ob hk, mk8_ob hk]
      by_cases h2 : k < i
      · rw [if_pos h2]; exact fin_same os W k
      · rw [if_neg h2]; exact ⟨rfl, rfl, rfl⟩
    have hlen3 : ∀ o ∈ (mk8 fun k => if k < i then finO os W k else midO os W k), (o.field.length : Int) ≤ 1048576 := fun o ho => by
      obtain ⟨k, hk, rfl⟩ := mk8_mem ho
      have hm := midO_len hof hol W hk
      by_cases h2 : k < i
      · rw [if_pos h2, (fin_same os W k).2.2]; omega
      · rw [if_neg h2]; omega
    generalize (mk8 fun k => if k < i then finO os W k else midO os W k) = M at hml hoi hset hin hlen3 ⊢
    have hM8 : M.length = 8 := by have := congrArg List.length (hset (finO os W i) rfl); rw [List.length_set, mk8_len] at this; exact this
    have hMs : M = M.set i (midO os W i) := by rw [← hoi, List.set_getElem_self]
    refine joinP_k (ixW_iv hlt ?_)
    cases hv : (midO os W i).live with
    | true =>
      refine ldc_tR0 (f := tO) (v := .bool true) hml (by rw [hoi]; simp [tO, hv]) (cndP_T (ixW_iv hlt ?_))
      refine ldc_tR (f := tO) (v := I (midO os W i).holds) hml (by decide) (by rw [hoi]; rfl) (ixW_iv hlt ?_)
      refine ldc_tR (f := tO) (v := I (midO os W i).roots) hml (by decide) (by rw [hoi]; rfl) (prP_addw ?_)
      refine spec_InEdges_c ⟨by omega, by omega⟩ (by rw [hM8]; decide) hlen3 ?_
      rw [hin]
      refine prP_addw (ixW_iv hlt ?_)
      rw [hMs]
      refine stS_HObj_count hml ?_
      rw [hset _ (by unfold finO; rw [if_pos hv])]
      exact prP_inc (by omega) hR
    | false =>
      refine ldc_tR0 (f := tO) (v := .bool false) hml (by rw [hoi]; simp [tO, hv]) (cndP_F ?_)
      rw [hMs, hset _ (by unfold finO; rw [if_neg (by rw [hv]; decide)])]
      exact prP_inc (by omega) hR
  · have : i = 8 := by omega
    subst this
    rw [mk8_congr (g := finO os W) fun k hk => if_pos hk]
    exact hK
end Go.Proofs.Ytnhicpkhkaihoaa.P
/- One operation. -/
namespace Go.Proofs.Ytnhicpkhkaihoaa.P
open Go Go.Proofs.Ytnhicpkhkaihoaa Go.Proofs.Ytnhicpkhkaihoaa.Eng
set_option linter.unusedVariables false
set_option maxHeartbeats 4000000
set_option linter.unusedVariables false
set_option linter.unusedSimpArgs false
attribute [local irreducible] prP gP gE gF cndP ixW ldc ldg ldl stc stg scW mkW apW loopP cl2 joinP pre2 selW
variable {w0 : World}
noncomputable def stepM (h : Hp) (o : Op5) : Hp × An :=
  if o.kind = 1 then (⟨(allocM h.objs h.sites o.site).1, h.weaks, h.buffer, (allocM h.objs h.sites o.site).2.1⟩, (allocM h.objs h.sites o.site).2.2) else
  if o.kind = 2 ∨ o.kind = 3 ∨ o.kind = 5 ∨ o.kind = 6 then (⟨(holdM h.objs h.buffer o.kind o.a).1, h.weaks, (holdM h.objs h.buffer o.kind o.a).2.1, h.sites⟩, (holdM h.objs h.buffer o.kind o.a).2.2) else
  if o.kind = 4 then (⟨(storeM h.objs h.buffer o.a o.b o.c).1, h.weaks, (storeM h.objs h.buffer o.a o.b o.c).2.1, h.sites⟩, (storeM h.objs h.buffer o.a o.b o.c).2.2) else
  if o.kind = 7 then (⟨h.objs, (weakM h.objs h.weaks o.a).1, h.buffer, h.sites⟩, (weakM h.objs h.weaks o.a).2) else
  if o.kind = 8 ∨ o.kind = 9 then (⟨h.objs, (handleM h.objs h.weaks o.kind o.a).1, h.buffer, h.sites⟩, (handleM h.objs h.weaks o.kind o.a).2) else
  if o.kind = 10 then (⟨(collM h.objs h.buffer).1, h.weaks, [], h.sites⟩, ⟨0, 0, (collM h.objs h.buffer).2⟩) else (h, ⟨2, 0, []⟩)
/-! ### A right heap is small -/
theorem nodup_take {α : Type} [Inhabited α] {l : List α} (h : ∀ i (hi : i < l.length), l[i] ∉ l.take i) : l.Nodup := by
  refine List.pairwise_iff_getElem.2 fun i j hi hj hij he => h j hj ?_
  rw [← he]
  exact List.mem_take_iff_getElem.2 ⟨i, by omega, rfl⟩
theorem few {n : Nat} : ∀ {l : List Int} (g : Int → Nat), l.Nodup → (∀ x ∈ l, g x < n) → (∀ x ∈ l, ∀ y ∈ l, g x = g y → x = y) → l.length ≤ n := by
  induction n with
  | zero =>
    intro l g _ h _
    cases l with
    | nil => simp
    | cons x l => exact absurd (h x (by simp)) (by omega)
  | succ n ih =>
    intro l g hn h hi
    by_cases hx : ∃ x ∈ l, g x = n
    · obtain ⟨x, hx, hg⟩ := hx
      have := ih (l := l.erase x) g (hn.erase x) (fun y hy => by
        have hy' := List.mem_of_mem_erase hy
        have := h y hy'
        have hne : g y ≠ n := fun he => by
          have : y = x := hi y hy' x hx (by omega)
          subst this
          exact (List.Nodup.not_mem_erase hn) hy
        omega) fun y hy z hz => hi y (List.mem_of_mem_erase hy) z (List.mem_of_mem_erase hz)
      rw [List.length_erase_of_mem hx] at this
      omega
    · have := ih g hn (fun y hy => by
        have := h y hy
        have : g y ≠ n := fun he => hx ⟨y, hy, he⟩
        omega) hi
      omega
theorem HeapOk.bnd {h : Hp} (hk : HeapOk h) : h.buffer.Nodup := nodup_take fun i hi => by rw [gI_eq hi]; exact (hk.buf i hi).2
theorem HeapOk.bslot {h : Hp} (hk : HeapOk h) {x : Int} (hx : x ∈ h.buffer) : 0 ≤ slotOf h.objs x := by
  obtain ⟨i, hi, rfl⟩ := List.getElem_of_mem hx
  rw [gI_eq hi]; exact (hk.buf i hi).1
theorem slotOf_inj {l : List HObj} {x y : Int} (hx : 0 ≤ slotOf l x) (hy : 0 ≤ slotOf l y) (h : slotOf l x = slotOf l y) : x = y := by
  have a := slotOf_bd hx; have b := slotOf_bd hy
  have e1 := a.2.2.2.2.2; have e2 := b.2.2.2.2.2
  rw [h] at e1
  omega
theorem HeapOk.blen {h : Hp} (hk : HeapOk h) : h.buffer.length ≤ 8 :=
  few (fun x => (slotOf h.objs x).toNat) hk.bnd (fun x hx => (slotOf_bd (hk.bslot hx)).2.2.2.1) fun x hx y hy he => slotOf_inj (hk.bslot hx) (hk.bslot hy) (by have := hk.bslot hx; have := hk.bslot hy; omega)
theorem HeapOk.st {h : Hp} (hk : HeapOk h) (hn : Nums h) : St h := by
  refine ⟨hk.ol, hk.wl, hk.sites.len, by have := hk.blen; omega, fun o ho => ?_, fun s hs => ?_, hn.weak, hn.buf⟩
  · obtain ⟨i, hi, rfl⟩ := List.getElem_of_mem ho
    have hi8 : i < 8 := by have := hk.ol; omega
    have := hn.obj _ ho
    rw [ob_eq hi] at this ⊢
    exact ⟨this.1, (hk.obj i hi8).len, this.2.2.2.2.2⟩
  · obtain ⟨i, hi, rfl⟩ := List.getElem_of_mem hs
    have := (hk.sites.sz i hi).2
    rw [gS_eq hi]; omega
theorem HeapOk.hr {h : Hp} (hk : HeapOk h) (i : Nat) : (0 ≤ (ob h.objs i).holds ∧ (ob h.objs i).holds ≤ 20) ∧ (0 ≤ (ob h.objs i).roots ∧ (ob h.objs i).roots ≤ 20) := by
  by_cases hi : i < 8
  · cases hv : (ob h.objs i).live with
    | true => exact ⟨((hk.obj i hi).lv hv).2.2.1, ((hk.obj i hi).lv hv).2.2.2.1⟩
    | false => have := (hk.obj i hi).dead hv; omega
  · have : ob h.objs i = ⟨false, 0, 0, 0, 0, 0, [], false⟩ := by unfold ob; rw [List.getD_eq_getElem?_getD, List.getElem?_eq_none (by have := hk.ol; omega)]; rfl
    rw [this]; simp
theorem HeapOk.fd {h : Hp} (hk : HeapOk h) (i : Nat) : ∀ f ∈ (ob h.objs i).field, f = -1 ∨ 0 ≤ f := by
  intro f hf
  by_cases hi : i < 8
  · obtain ⟨j, hj, rfl⟩ := List.getElem_of_mem hf
    have ho := hk.obj i hi
    by_cases h1 : gI (ob h.objs i).field j = -1
    · left; rw [gI_eq hj]; exact h1
    · right
      have := slotOf_bd (ho.lead j (by have := ho.len; omega) h1).2
      rw [gI_eq hj]; omega
  · have : ob h.objs i = ⟨false, 0, 0, 0, 0, 0, [], false⟩ := by unfold ob; rw [List.getD_eq_getElem?_getD, List.getElem?_eq_none (by have := hk.ol; omega)]; rfl
    rw [this] at hf; simp at hf
theorem kinds (k : Int) : k = 1 ∨ (k = 2 ∨ k = 3 ∨ k = 5 ∨ k = 6) ∨ k = 4 ∨ k = 7 ∨ (k = 8 ∨ k = 9) ∨ k = 10 ∨ ¬ (k = 1 ∨ k = 2 ∨ k = 3 ∨ k = 4 ∨ k = 5 ∨ k = 6 ∨ k = 7 ∨ k = 8 ∨ k = 9 ∨ k = 10) := by omega
theorem impl_apply_c {h : Hp} {o : Op5} {K : J2} (hk : HeapOk h) (hn : Nums h) (ha : F64 o.a) (hc : F64 o.c) (hK : K [I (stepM h o).2.code, I (stepM h o).2.val] (tI (stepM h o).2.freed :: trees (stepM h o).1)) : cl2 ⟨Try.prog, w0⟩ 131 impl_Heap_apply.sg [I o.kind, I o.a, I o.b, I o.c, .string o.site] (trees h) K := by
  have st := hk.st hn
  have hr := hk.hr
  refine impl_Heap_apply.cl2 ?_
  unfold impl_Heap_apply.txt
  obtain ⟨os, ws, buf, ss⟩ := h
  obtain ⟨kd, a, b, c, s⟩ := o
  have hol : os.length = 8 := st.ol
  have hof : ∀ o ∈ os, OF o := st.of
  have hb : buf.length ≤ 100 := st.bl
  simp only at ha hc hr
  simp only [trees]
  unfold stepM at hK
  simp only at hK
  rcases kinds kd with rfl | hkd | rfl | rfl | hkd | rfl | hkd
  · rw [if_pos rfl] at hK
    exact prP_eqd (cndP_yes rfl (impl_alloc_c hol st.sl hK))
  · rw [if_neg (by omega), if_pos hkd] at hK
    have cc := fun {K : J2} => impl_counted_c (w0 := w0) (os := os) (buf := buf) (b := tR tW ws) (d := tS ss) (kind := kd) (id := a) (K := K) hol hof hb ha hkd hr
    rcases hkd with rfl | rfl | rfl | rfl
    all_goals
      repeat' (first | refine joinP_k ?_ | refine cndP_T ?_ | refine cndP_F ?_ | refine prP_eqd ?_ | simp only [cnt_tO, cnt_tW, cnt_tP, cnt_tA, cnt_tN, cnt_tI, cnt_tS, cnt1_1, cnt1_0, cnt2_1, cnt3_1, cnt5_1, cnt6_1, cnt8_1, nx_0, nx_1, nx_2, nx_3, nx_4, nx_5, nx_6, nxc_0, nxc_1, nxc_2, nxc_3, nxc_4, nxc_5])
      exact cc hK
  · simp only [if_neg (show ¬ (4 : Int) = 1 by decide), if_neg (show ¬ ((4 : Int) = 2 ∨ (4 : Int) = 3 ∨ (4 : Int) = 5 ∨ (4 : Int) = 6) by decide), if_true] at hK
    repeat' (first | refine joinP_k ?_ | refine cndP_T ?_ | refine cndP_F ?_ | refine prP_eqd ?_ | simp only [cnt_tO, cnt_tW, cnt_tP, cnt_tA, cnt_tN, cnt_tI, cnt_tS, cnt1_1, cnt1_0, cnt2_1, cnt3_1, cnt5_1, cnt6_1, cnt8_1, nx_0, nx_1, nx_2, nx_3, nx_4, nx_5, nx_6, nxc_0, nxc_1, nxc_2, nxc_3, nxc_4, nxc_5])
    exact impl_store_c hol hof hb ha hc hK
  · simp only [if_neg (show ¬ (7 : Int) = 1 by decide), if_neg (show ¬ ((7 : Int) = 2 ∨ (7 : Int) = 3 ∨ (7 : Int) = 5 ∨ (7 : Int) = 6) by decide), if_neg (show ¬ (7 : Int) = 4 by decide), if_true] at hK
    repeat' (first | refine joinP_k ?_ | refine cndP_T ?_ | refine cndP_F ?_ | refine prP_eqd ?_ | simp only [cnt_tO, cnt_tW, cnt_tP, cnt_tA, cnt_tN, cnt_tI, cnt_tS, cnt1_1, cnt1_0, cnt2_1, cnt3_1, cnt5_1, cnt6_1, cnt8_1, nx_0, nx_1, nx_2, nx_3, nx_4, nx_5, nx_6, nxc_0, nxc_1, nxc_2, nxc_3, nxc_4, nxc_5])
    exact impl_weak_c hol st.wl ha hK
  · rw [if_neg (by omega), if_neg (by omega), if_neg (by omega), if_neg (by omega), if_pos hkd] at hK
    rcases hkd with rfl | rfl
    all_goals
      repeat' (first | refine joinP_k ?_ | refine cndP_T ?_ | refine cndP_F ?_ | refine prP_eqd ?_ | simp only [cnt_tO, cnt_tW, cnt_tP, cnt_tA, cnt_tN, cnt_tI, cnt_tS, cnt1_1, cnt1_0, cnt2_1, cnt3_1, cnt5_1, cnt6_1, cnt8_1, nx_0, nx_1, nx_2, nx_3, nx_4, nx_5, nx_6, nxc_0, nxc_1, nxc_2, nxc_3, nxc_4, nxc_5])
      exact impl_handle_c hol st.wl ha st.wf hK
  · simp only [if_neg (show ¬ (10 : Int) = 1 by decide), if_neg (show ¬ ((10 : Int) = 2 ∨ (10 : Int) = 3 ∨ (10 : Int) = 5 ∨ (10 : Int) = 6) by decide), if_neg (show ¬ (10 : Int) = 4 by decide), if_neg (show ¬ (10 : Int) = 7 by decide), if_neg (show ¬ ((10 : Int) = 8 ∨ (10 : Int) = 9) by decide), if_true] at hK
    repeat' (first | refine joinP_k ?_ | refine cndP_T ?_ | refine cndP_F ?_ | refine prP_eqd ?_ | simp only [cnt_tO, cnt_tW, cnt_tP, cnt_tA, cnt_tN, cnt_tI, cnt_tS, cnt1_1, cnt1_0, cnt2_1, cnt3_1, cnt5_1, cnt6_1, cnt8_1, nx_0, nx_1, nx_2, nx_3, nx_4, nx_5, nx_6, nxc_0, nxc_1, nxc_2, nxc_3, nxc_4, nxc_5])
    exact impl_Collect_c st (fun o ho => (hn.obj o ho).2.2.2.2.1) hK
  · rw [if_neg (by omega), if_neg (by omega), if_neg (by omega), if_neg (by omega), if_neg (by omega), if_neg (by omega)] at hK
    repeat' (first | refine joinP_k ?_ | refine cndP_no (by first | with_reducible assumption | omega) ?_ | refine prP_eqd ?_ | simp only [cnt_tO, cnt_tW, cnt_tP, cnt_tA, cnt_tN, cnt_tI, cnt_tS, cnt1_1, cnt1_0, cnt2_1, cnt3_1, cnt5_1, cnt6_1, cnt8_1, nx_0, nx_1, nx_2, nx_3, nx_4, nx_5, nx_6, nxc_0, nxc_1, nxc_2, nxc_3, nxc_4, nxc_5])
    all_goals first | exact impl_refused_c hK | (exfalso; omega)
end Go.Proofs.Ytnhicpkhkaihoaa.P
/- One operation: both. -/
namespace Go.Proofs.Ytnhicpkhkaihoaa.P
open Go Go.Proofs.Ytnhicpkhkaihoaa Go.Proofs.Ytnhicpkhkaihoaa.Eng
set_option linter.unusedVariables false
set_option maxHeartbeats 4000000
set_option linter.unusedVariables false
set_option linter.unusedSimpArgs false
attribute [local irreducible] prP gP gE gF cndP ixW ldc ldg ldl stc stg scW mkW apW loopP cl2 joinP pre2 selW
variable {w0 : World}
open Classical in
noncomputable def applyM (h : Hp) (o : Op5) : Hp × An := if HeapOk h then stepM h o else (h, ⟨2, 0, []⟩)
theorem applyM_y {h : Hp} {o : Op5} (hk : HeapOk h) : applyM h o = stepM h o := by unfold applyM; rw [if_pos hk]
theorem applyM_n {h : Hp} {o : Op5} (hk : ¬ HeapOk h) : applyM h o = (h, ⟨2, 0, []⟩) := by unfold applyM; rw [if_neg hk]
theorem impl_Apply_c {h : Hp} {o : Op5} {K : J2} (hf : Fits h) (hn : Nums h) (ha : F64 o.a) (hc : F64 o.c) (hK : K [I (applyM h o).2.code, I (applyM h o).2.val] (trees (applyM h o).1 ++ [tI (applyM h o).2.freed])) : cl2 ⟨Try.prog, w0⟩ 64 impl_Apply.sg [I o.kind, I o.a, I o.b, I o.c, .string o.site] (trees h) K := by
  refine impl_Apply.cl2 ?_
  unfold impl_Apply.txt
  refine impl_copyHeap_c hf (impl_HeapOk_c hf hn (fun hk => prP_not (cndP_F ?_)) fun hk => prP_not (cndP_T ?_))
  · rw [applyM_y hk] at hK
    exact impl_apply_c hk hn ha hc hK
  · rw [applyM_n hk] at hK
    exact impl_refused_c hK
theorem spec_Apply_c {h : Hp} {o : Op5} {K : J2} (hf : Fits h) (hn : Nums h) (ha : F64 o.a) (hc : F64 o.c) (hK : K [I (applyM h o).2.code, I (applyM h o).2.val] (trees (applyM h o).1 ++ [tI (applyM h o).2.freed])) : cl2 ⟨Try.prog, w0⟩ 62 spec_Apply.sg [I o.kind, I o.a, I o.b, I o.c, .string o.site] (trees h) K := by
  refine spec_Apply.cl2 ?_
  unfold spec_Apply.txt
  refine spec_l5Copy_c hf (spec_HeapOk_c hf hn (fun hk => prP_not (cndP_F ?_)) fun hk => prP_not (cndP_T ?_))
  rotate_left
  · rw [applyM_n hk] at hK
    exact hK
  rw [applyM_y hk] at hK
  have st := hk.st hn
  have hr := hk.hr
  have hfd := hk.fd
  have hss := hk.sites
  have hcn : ∀ o ∈ h.objs, F64 o.count := fun o ho => (hn.obj o ho).2.2.2.2.1
  clear hf hk
  obtain ⟨kd, a, b, c, s⟩ := o
  have hol : h.objs.length = 8 := st.ol
  simp only at ha hc hr
  unfold stepM at hK
  simp only at hK
  have hold := fun {K : J2} (hkd : kd = 2 ∨ kd = 3 ∨ kd = 5 ∨ kd = 6) => spec_l8Hold_c (w0 := w0) (h := h) (kind := kd) (id := a) (b := b) (c := c) (s := s) (K := K) st ha hkd hr
  have store := fun {K : J2} => spec_l8Store_c (w0 := w0) (h := h) (a0 := kd) (a1 := a) (a2 := b) (a3 := c) (s := s) (K := K) st ha hc hfd
  have coll := fun {K : J2} => spec_Collect_c (w0 := w0) (h := h) (K := K) st hcn
  have weak := fun {K : J2} => spec_l8Weak_c (w0 := w0) (os := h.objs) (ws := h.weaks) (cc := tI h.buffer) (d := tS h.sites) (kind := kd) (k := a) (b := b) (c := c) (s := s) (K := K) hol st.wl ha st.wf
  simp only [trees] at hold store coll ⊢
  rcases kinds kd with rfl | hkd | rfl | rfl | hkd | rfl | hkd
  · rw [if_pos rfl] at hK
    exact prP_eqd (cndP_yes rfl (spec_l8Alloc_c hol hss hK))
  · rw [if_neg (by omega), if_pos hkd] at hK
    replace hold := fun {K : J2} => hold (K := K) hkd
    rcases hkd with rfl | rfl | rfl | rfl
    all_goals
      repeat' (first | refine joinP_k ?_ | refine cndP_T ?_ | refine cndP_F ?_ | refine prP_eqd ?_ | simp only [cnt_tO, cnt_tW, cnt_tP, cnt_tA, cnt_tN, cnt_tI, cnt_tS, cnt1_1, cnt1_0, cnt2_1, cnt3_1, cnt5_1, cnt6_1, cnt8_1, nx_0, nx_1, nx_2, nx_3, nx_4, nx_5, nx_6, nxc_0, nxc_1, nxc_2, nxc_3, nxc_4, nxc_5])
      exact hold hK
  · simp only [if_neg (show ¬ (4 : Int) = 1 by decide), if_neg (show ¬ ((4 : Int) = 2 ∨ (4 : Int) = 3 ∨ (4 : Int) = 5 ∨ (4 : Int) = 6) by decide), if_true] at hK
    repeat' (first | refine joinP_k ?_ | refine cndP_T ?_ | refine cndP_F ?_ | refine prP_eqd ?_ | simp only [cnt_tO, cnt_tW, cnt_tP, cnt_tA, cnt_tN, cnt_tI, cnt_tS, cnt1_1, cnt1_0, cnt2_1, cnt3_1, cnt5_1, cnt6_1, cnt8_1, nx_0, nx_1, nx_2, nx_3, nx_4, nx_5, nx_6, nxc_0, nxc_1, nxc_2, nxc_3, nxc_4, nxc_5])
    exact store hK
  · simp only [if_neg (show ¬ (7 : Int) = 1 by decide), if_neg (show ¬ ((7 : Int) = 2 ∨ (7 : Int) = 3 ∨ (7 : Int) = 5 ∨ (7 : Int) = 6) by decide), if_neg (show ¬ (7 : Int) = 4 by decide), if_true] at hK
    repeat' (first | refine joinP_k ?_ | refine cndP_T ?_ | refine cndP_F ?_ | refine prP_eqd ?_ | simp only [cnt_tO, cnt_tW, cnt_tP, cnt_tA, cnt_tN, cnt_tI, cnt_tS, cnt1_1, cnt1_0, cnt2_1, cnt3_1, cnt5_1, cnt6_1, cnt8_1, nx_0, nx_1, nx_2, nx_3, nx_4, nx_5, nx_6, nxc_0, nxc_1, nxc_2, nxc_3, nxc_4, nxc_5])
    exact weak (fun _ => hK) (fun hh => absurd rfl hh)
  · rw [if_neg (by omega), if_neg (by omega), if_neg (by omega), if_neg (by omega), if_pos hkd] at hK
    rcases hkd with rfl | rfl
    all_goals
      repeat' (first | refine joinP_k ?_ | refine cndP_T ?_ | refine cndP_F ?_ | refine prP_eqd ?_ | simp only [cnt_tO, cnt_tW, cnt_tP, cnt_tA, cnt_tN, cnt_tI, cnt_tS, cnt1_1, cnt1_0, cnt2_1, cnt3_1, cnt5_1, cnt6_1, cnt8_1, nx_0, nx_1, nx_2, nx_3, nx_4, nx_5, nx_6, nxc_0, nxc_1, nxc_2, nxc_3, nxc_4, nxc_5])
      exact weak (fun hh => absurd hh (by decide)) (fun _ => hK)
  · simp only [if_neg (show ¬ (10 : Int) = 1 by decide), if_neg (show ¬ ((10 : Int) = 2 ∨ (10 : Int) = 3 ∨ (10 : Int) = 5 ∨ (10 : Int) = 6) by decide), if_neg (show ¬ (10 : Int) = 4 by decide), if_neg (show ¬ (10 : Int) = 7 by decide), if_neg (show ¬ ((10 : Int) = 8 ∨ (10 : Int) = 9) by decide), if_true] at hK
    repeat' (first | refine joinP_k ?_ | refine cndP_T ?_ | refine cndP_F ?_ | refine prP_eqd ?_ | simp only [cnt_tO, cnt_tW, cnt_tP, cnt_tA, cnt_tN, cnt_tI, cnt_tS, cnt1_1, cnt1_0, cnt2_1, cnt3_1, cnt5_1, cnt6_1, cnt8_1, nx_0, nx_1, nx_2, nx_3, nx_4, nx_5, nx_6, nxc_0, nxc_1, nxc_2, nxc_3, nxc_4, nxc_5])
    exact coll hK
  · rw [if_neg (by omega), if_neg (by omega), if_neg (by omega), if_neg (by omega), if_neg (by omega), if_neg (by omega)] at hK
    repeat' (first | refine joinP_k ?_ | refine cndP_no (by first | with_reducible assumption | omega) ?_ | refine prP_eqd ?_ | simp only [cnt_tO, cnt_tW, cnt_tP, cnt_tA, cnt_tN, cnt_tI, cnt_tS, cnt1_1, cnt1_0, cnt2_1, cnt3_1, cnt5_1, cnt6_1, cnt8_1, nx_0, nx_1, nx_2, nx_3, nx_4, nx_5, nx_6, nxc_0, nxc_1, nxc_2, nxc_3, nxc_4, nxc_5])
    all_goals first | exact hK | (exfalso; omega)
end Go.Proofs.Ytnhicpkhkaihoaa.P
/- ShowEvent. -/
namespace Go.Proofs.Ytnhicpkhkaihoaa.P
open Go Go.Proofs.Ytnhicpkhkaihoaa Go.Proofs.Ytnhicpkhkaihoaa.Eng
set_option linter.unusedVariables false
def okE (n : Int) (l : List ByteArray) (a b c d : Int) (s : ByteArray) (k v : Int) (xs : List Int) : Bool := (spkB a b c d s && ansB k v xs) && penB n l
def Fx (q : ByteArray × Int) (x : Int) : ByteArray × Int := (q.1 ++ SI (x - q.2), x)
def base (n : Int) (l : List ByteArray) (a b c d : Int) (s : ByteArray) (k v : Int) (m : Nat) : ByteArray := ((((((SI a ++ SI (b - n)) ++ SI c) ++ SI (d - b)) ++ siteB l s) ++ V k) ++ SI (v - b)) ++ V m
def stE (p : ByteArray × Int) (xs : List Int) (i : Nat) : ByteArray × Int := (xs.take i).foldl Fx p
theorem stE_succ {p : ByteArray × Int} {xs : List Int} {i : Nat} (hi : i < xs.length) : stE p xs (i + 1) = Fx (stE p xs i) xs[i] := by
  rw [stE, List.take_succ_eq_append_getElem hi, List.foldl_append]; rfl
theorem stE_ok {p : ByteArray × Int} {xs : List Int} (hp : argB p.2 = true) (hx : xs.all argB = true) : ∀ i, i ≤ xs.length → argB (stE p xs i).2 = true ∧ (stE p xs i).1.size ≤ p.1.size + 7 * i
  | 0, _ => ⟨hp, Nat.le_refl _⟩
  | i + 1, hi => by
    obtain ⟨h1, h2⟩ := stE_ok hp hx i (by omega)
    rw [stE_succ (by omega)]
    refine ⟨List.all_eq_true.1 hx _ (List.getElem_mem _), ?_⟩
    have := V_size (zg (xs[i] - (stE p xs i).2))
    simp only [Fx, ByteArray.size_append, SI]; omega
theorem siteB_size (l : List ByteArray) (s : ByteArray) : (siteB l s).size ≤ 22 := by
  unfold siteB; split
  · have := V_size (at_ l s + 1); omega
  · have h1 := V_size 0
    have h2 := ST_size s
    rw [ByteArray.size_append]; omega
theorem SI_size (n : Int) : (SI n).size ≤ 7 := V_size _
def showR (n : Int) (l : List ByteArray) (a b c d : Int) (s : ByteArray) (k v : Int) (xs : List Int) : ByteArray × Int × List ByteArray :=
  if okE n l a b c d s k v xs then ((stE (base n l a b c d s k v xs.length, b) xs xs.length).1, b, penT l s) else (⟨#[]⟩, n, l)
theorem ok_parts {n : Int} {l : List ByteArray} {a b c d : Int} {s : ByteArray} {k v : Int} {xs : List Int} (h : okE n l a b c d s k v xs = true) : argB a = true ∧ argB b = true ∧ argB c = true ∧ argB d = true ∧ argB v = true ∧ argB n = true ∧ xs.all argB = true ∧ xs.length ≤ 8 ∧ (0 ≤ k ∧ k ≤ 6) ∧ l.length ≤ 400 := by
  simp only [okE, spkB, ansB, penB, Bool.and_eq_true, decide_eq_true_eq] at h
  exact ⟨h.1.1.1.1.1.1, h.1.1.1.1.1.2, h.1.1.1.1.2, h.1.1.1.2, h.1.2.1.1.2, h.2.1.1, h.1.2.2, h.1.2.1.2, inB_iff.1 h.1.2.1.1.1, h.2.1.2⟩
theorem base_size (n : Int) (l : List ByteArray) (a b c d : Int) (s : ByteArray) (k v : Int) (m : Nat) : (base n l a b c d s k v m).size ≤ 71 := by
  have h1 := SI_size a; have h2 := SI_size (b - n); have h3 := SI_size c; have h4 := SI_size (d - b); have h5 := siteB_size l s; have h6 := V_size k; have h7 := SI_size (v - b); have h8 := V_size m
  simp only [base, ByteArray.size_append]; omega
end Go.Proofs.Ytnhicpkhkaihoaa.P
/- ShowEvent, the program's. -/
namespace Go.Proofs.Ytnhicpkhkaihoaa.P
open Go Go.Proofs.Ytnhicpkhkaihoaa Go.Proofs.Ytnhicpkhkaihoaa.Eng
set_option linter.unusedVariables false
end Go.Proofs.Ytnhicpkhkaihoaa.P
