/- A part of the proof. -/
import Derived.Test.YtnhicpkhkaihoaaCgLawTyWeak
/- What the laws' small functions make of heaps. -/
namespace Go.Proofs.Ytnhicpkhkaihoaa.P
open Go Go.Proofs.Ytnhicpkhkaihoaa Go.Proofs.Ytnhicpkhkaihoaa.Eng
set_option maxHeartbeats 4000000
set_option linter.unusedVariables false
set_option linter.unusedSimpArgs false
attribute [local irreducible] prP gP gE gF cndP ixW ldc ldg ldl stc stg scW mkW apW loopP cl2 joinP pre2 selW
variable {w0 : World}
/-- What the machine lets a heap be. -/
structure Raw (h : Hp) : Prop where
  ol : (h.objs.length : Int) < 2 ^ 63
  of : ∀ o ∈ h.objs, (o.field.length : Int) < 2 ^ 63
  wl : (h.weaks.length : Int) < 2 ^ 63
  bl : (h.buffer.length : Int) < 2 ^ 63
  sl : (h.sites.length : Int) < 2 ^ 63
  ss : ∀ s ∈ h.sites, (s.size : Int) < 2 ^ 63
/-- What the laws look at. -/
structure Fits (h : Hp) : Prop where
  ol : (h.objs.length : Int) ≤ 1048576
  of : ∀ o ∈ h.objs, (o.field.length : Int) ≤ 1048576
  wl : (h.weaks.length : Int) ≤ 1048576
  bl : (h.buffer.length : Int) ≤ 1048576
  sl : (h.sites.length : Int) ≤ 1048576
  ss : ∀ s ∈ h.sites, (s.size : Int) ≤ 1048576
theorem laws_szObj_c {o : HObj} {z : Int} {K : J2} (hl : (o.field.length : Int) < 2 ^ 63) (hz : 0 ≤ z ∧ z ≤ 2 ^ 62) (h0 : K [I (-1)] []) (h1 : (o.field.length : Int) ≤ z → K [I (z - o.field.length)] []) : cl2 ⟨Try.prog, w0⟩ 153 laws_szObj.sg [.bool o.live, I o.gen, I o.site, I o.holds, I o.roots, I o.count, .bool o.purple, I z] [tI o.field] K := by
  refine laws_szObj.cl2 ?_
  unfold laws_szObj.txt
  refine laws_szIntS_c hl hz ?_ fun h => ?_
  · repeat' (first | refine cndP_T ?_ | refine prP_lss ?_)
    exact h0
  · repeat' (first | refine cndP_no (by first | with_reducible assumption | omega) ?_ | refine prP_lss ?_ | simp only [cnt_tO, cnt_tW, cnt_tP, cnt_tA, cnt_tN, cnt_tI, cnt_tS, cnt1_1, cnt1_0, cnt2_1, cnt3_1, cnt5_1, cnt6_1, cnt8_1, nx_0, nx_1, nx_2, nx_3, nx_4, nx_5, nx_6, nxc_0, nxc_1, nxc_2, nxc_3, nxc_4, nxc_5])
    exact h1 h
theorem laws_szObjS_c {z : Int} {l : List HObj} {K : J2} (hl : (l.length : Int) < 2 ^ 63) (hs : ∀ o ∈ l, (o.field.length : Int) < 2 ^ 63) (hz : 0 ≤ z ∧ z ≤ 2 ^ 62) (h0 : K [I (-1)] []) (h1 : ∀ r, 0 ≤ r → r ≤ z → (l.length : Int) ≤ z → (∀ o ∈ l, (o.field.length : Int) ≤ z) → K [I r] []) : cl2 ⟨Try.prog, w0⟩ 75 laws_szObjS.sg [I z] [tR tO l] K := by
  refine laws_szObjS.cl2 ?_
  unfold laws_szObjS.txt
  simp only [cnt_tO, cnt_tW, cnt_tP, cnt_tA, cnt_tN, cnt_tI, cnt_tS, cnt1_1, cnt1_0, cnt2_1, cnt3_1, cnt5_1, cnt6_1, cnt8_1, nx_0, nx_1, nx_2, nx_3, nx_4, nx_5, nx_6, nxc_0, nxc_1, nxc_2, nxc_3, nxc_4, nxc_5]
  repeat' (first | refine prP_lss ?_ | refine prP_add ⟨by omega, by omega⟩ ?_ | refine cndP_d (fun _ => ?_) (fun _ => ?_))
  · exact h0
  · refine loopP_wf (α := Int × Nat) (fun p => [I p.1, iv p.2]) (fun _ => []) (fun p => l.length - p.2) (fun p => 0 ≤ p.1 ∧ p.1 ≤ z ∧ p.2 ≤ l.length ∧ ∀ s ∈ l.take p.2, (s.field.length : Int) ≤ z) (z - l.length, 0) rfl rfl ⟨by simp only; omega, by simp only; omega, Nat.zero_le _, by simp⟩ (fun R p hp hR => ?_)
    obtain ⟨r, i⟩ := p
    obtain ⟨p1, p2, p3, p4⟩ := hp
    simp only at p1 p2 p3 p4
    refine prP_lss (cndP_d (fun hlt => ?_) fun hge => ?_)
    · have hlt : i < l.length := by simpa using hlt
      have hsz := hs _ (List.getElem_mem hlt)
      refine ixW_iv hlt (ldg_tR hlt rfl rfl ?_)
      rw [subO_field hlt]
      refine laws_szObj_c hsz ⟨p1, by omega⟩ ?_ fun h => ?_
      · repeat' (first | refine cndP_T ?_ | refine prP_lss ?_)
        exact h0
      · repeat' (first | refine cndP_no (by first | with_reducible assumption | omega) ?_ | refine prP_lss ?_ | refine prP_inc (by omega) ?_ | simp only [cnt_tO, cnt_tW, cnt_tP, cnt_tA, cnt_tN, cnt_tI, cnt_tS, cnt1_1, cnt1_0, cnt2_1, cnt3_1, cnt5_1, cnt6_1, cnt8_1, nx_0, nx_1, nx_2, nx_3, nx_4, nx_5, nx_6, nxc_0, nxc_1, nxc_2, nxc_3, nxc_4, nxc_5])
        refine hR (r - l[i].field.length, i + 1) ⟨by simp only; omega, by simp only; omega, hlt, fun s hs => ?_⟩ (by simp only; omega)
        simp only [List.take_succ_eq_append_getElem hlt, List.mem_append, List.mem_singleton] at hs
        rcases hs with hs | rfl
        · exact p4 s hs
        · omega
    · have : i = l.length := by simp at hge; omega
      subst this
      exact h1 r p1 p2 (by omega) (by simpa using p4)
theorem laws_szWeakS_c {z : Int} {l : List Wk} {K : J2} (hl : (l.length : Int) < 2 ^ 63) (hz : 0 ≤ z ∧ z ≤ 2 ^ 62) (h0 : K [I (-1)] []) (h1 : (l.length : Int) ≤ z → K [I (z - l.length)] []) : cl2 ⟨Try.prog, w0⟩ 76 laws_szWeakS.sg [I z] [tR tW l] K := by
  refine laws_szWeakS.cl2 ?_
  unfold laws_szWeakS.txt
  simp only [cnt_tO, cnt_tW, cnt_tP, cnt_tA, cnt_tN, cnt_tI, cnt_tS, cnt1_1, cnt1_0, cnt2_1, cnt3_1, cnt5_1, cnt6_1, cnt8_1, nx_0, nx_1, nx_2, nx_3, nx_4, nx_5, nx_6, nxc_0, nxc_1, nxc_2, nxc_3, nxc_4, nxc_5]
  repeat' (first | refine prP_lss ?_ | refine prP_add ⟨by omega, by omega⟩ ?_ | refine cndP_d (fun _ => ?_) (fun _ => ?_))
  · exact h0
  · exact h1 (by omega)
abbrev trees (h : Hp) : List (List T) := [tR tO h.objs, tR tW h.weaks, tI h.buffer, tS h.sites]
theorem laws_szHeap_c {h : Hp} {K : J2} (hr : Raw h) (h0 : K [I (-1)] []) (h1 : ∀ r, 0 ≤ r → r ≤ 1048576 → Fits h → K [I r] []) : cl2 ⟨Try.prog, w0⟩ 13 laws_szHeap.sg [I 1048576] (trees h) K := by
  refine laws_szHeap.cl2 ?_
  unfold laws_szHeap.txt
  have neg : ∀ {p q : Prop}, p → cndP (.bool (decide ((-1 : Int) < 0))) p q := fun h => cndP_yes (by omega) h
  refine laws_szObjS_c hr.ol hr.of ⟨by omega, by omega⟩ (prP_lss (neg h0)) fun r r0 r1 r2 r3 => prP_lss (cndP_no (by omega) ?_)
  refine laws_szWeakS_c hr.wl ⟨r0, by omega⟩ (prP_lss (neg h0)) fun s2 => prP_lss (cndP_no (by omega) ?_)
  refine laws_szIntS_c hr.bl ⟨by omega, by omega⟩ (prP_lss (neg h0)) fun t2 => prP_lss (cndP_no (by omega) ?_)
  refine laws_szStringS_c hr.sl hr.ss ⟨by omega, by omega⟩ (prP_lss (neg h0)) fun u u0 u1 u2 u3 => prP_lss (cndP_no (by omega) ?_)
  exact h1 u u0 (by omega) ⟨r2, r3, by omega, by omega, by omega, fun s hs => by have := u3 s hs; omega⟩
theorem laws_toHeap_c {h : Hp} {K : J2} (hf : Fits h) (hk : K [] (trees h)) : cl2 ⟨Try.prog, w0⟩ 15 laws_toHeap.sg [] (trees h) K := by
  refine laws_toHeap.cl2 ?_
  unfold laws_toHeap.txt
  have h1 := hf.ol; have h2 := hf.wl; have h3 := hf.bl; have h4 := hf.sl
  exact laws_toObjS_c (by omega) (fun o ho => by have := hf.of o ho; omega) (laws_toWeakS_c (by omega) (laws_toIntS_c (by omega) (laws_toStringS_c (by omega) hk)))
theorem laws_eqHeap_c {h : Hp} {K : J2} (hf : Fits h) (hk : K [.bool true] []) : cl2 ⟨Try.prog, w0⟩ 18 laws_eqHeap.sg [] (trees h ++ trees h) K := by
  refine laws_eqHeap.cl2 ?_
  unfold laws_eqHeap.txt
  have h1 := hf.ol; have h2 := hf.wl; have h3 := hf.bl; have h4 := hf.sl
  have yes : ∀ {p : Prop} {K : J2}, K [.bool true] [] → prP (un .not (nx [.bool true] 0)) fun t => cndP t p (K [.bool true] []) := fun h => prP_not (cndP_F h)
  refine laws_eqObjS_c (by omega) (fun o ho => by have := hf.of o ho; omega) (prP_not (cndP_F ?_))
  refine laws_eqWeakS_c (by omega) (prP_not (cndP_F ?_))
  refine laws_eqIntS_c (by omega) (prP_not (cndP_F ?_))
  exact laws_eqStringS_c (by omega) (prP_not (cndP_F hk))
def szHp (h : Hp) : Int := szL szHObj h.objs + szL szWk h.weaks + h.buffer.length + h.sites.length
def mkHp (k : Int) (h : Hp) : Hp := ⟨mkL mkHObj szHObj k h.objs, mkL mkWk szWk (k + szL szHObj h.objs) h.weaks, marks (k + szL szHObj h.objs + szL szWk h.weaks) h.buffer.length, marksS (k + szL szHObj h.objs + szL szWk h.weaks + h.buffer.length) h.sites.length⟩
theorem szL_le {α : Type} {sz : α → Int} {b : Int} : ∀ {l : List α}, (∀ x ∈ l, sz x ≤ b) → szL sz l ≤ l.length * b
  | [], _ => by simp [szL]
  | x :: l, h => by
    have h1 := h x (by simp)
    have h2 := szL_le (l := l) fun y hy => h y (by simp [hy])
    simp only [szL, List.length_cons]
    have : ((l.length + 1 : Nat) : Int) * b = l.length * b + b := by
      rw [Int.natCast_add, Int.add_mul]; simp
    omega
theorem Fits.objs {h : Hp} (hf : Fits h) : 0 ≤ szL szHObj h.objs ∧ szL szHObj h.objs ≤ 2 ^ 41 := by
  refine ⟨szL_pos szHObj_pos _, ?_⟩
  have h1 := szL_le (sz := szHObj) (b := 1048583) (l := h.objs) fun o ho => by have := hf.of o ho; unfold szHObj; omega
  have h2 := hf.ol
  have h3 : (h.objs.length : Int) * 1048583 ≤ 1048576 * 1048583 := Int.mul_le_mul_of_nonneg_right h2 (by omega)
  omega
theorem Fits.weaks {h : Hp} (hf : Fits h) : 0 ≤ szL szWk h.weaks ∧ szL szWk h.weaks ≤ 2 ^ 41 := by
  refine ⟨szL_pos szWk_pos _, ?_⟩
  have h1 := szL_le (sz := szWk) (b := 2) (l := h.weaks) fun o ho => by unfold szWk; omega
  have h2 := hf.wl
  omega
theorem Fits.sz {h : Hp} (hf : Fits h) : 0 ≤ szHp h ∧ szHp h ≤ 2 ^ 43 := by
  have h1 := hf.objs; have h2 := hf.weaks; have h3 := hf.bl; have h4 := hf.sl
  unfold szHp; omega
theorem laws_markHeap_c {h : Hp} {k : Int} {K : J2} (hf : Fits h) (hk : 0 ≤ k ∧ k ≤ 2 ^ 50) (h1 : K [I (k + szHp h)] (trees (mkHp k h))) : cl2 ⟨Try.prog, w0⟩ 19 laws_markHeap.sg [I k] (trees h) K := by
  refine laws_markHeap.cl2 ?_
  unfold laws_markHeap.txt
  have g1 := hf.ol; have g2 := hf.wl; have g3 := hf.bl; have g4 := hf.sl
  have a1 := hf.objs; have a2 := hf.weaks
  refine laws_markObjS_c (by omega) hk.1 (by omega) (laws_markWeakS_c (by omega) (by omega) (by omega) (laws_markIntS_c (by omega) ⟨by omega, by omega⟩ (laws_markStringS_c (by omega) ⟨by omega, by omega⟩ ?_)))
  have e : k + szHp h = k + szL szHObj h.objs + szL szWk h.weaks + h.buffer.length + h.sites.length := by unfold szHp; omega
  rw [e] at h1; exact h1
theorem laws_heldHeap_c {h : Hp} {k : Int} {K : J2} (hf : Fits h) (hk : 0 ≤ k ∧ k ≤ 2 ^ 50) (h1 : K [I (k + szHp h)] []) : cl2 ⟨Try.prog, w0⟩ 60 laws_heldHeap.sg [I k] (trees (mkHp k h)) K := by
  refine laws_heldHeap.cl2 ?_
  unfold laws_heldHeap.txt
  have g1 := hf.ol; have g2 := hf.wl; have g3 := hf.bl; have g4 := hf.sl
  have a1 := hf.objs; have a2 := hf.weaks
  refine laws_heldObjS_c (by omega) hk.1 (by omega) (prP_lss (cndP_no (by omega) (laws_heldWeakS_c (by omega) (by omega) (by omega) (prP_lss (cndP_no (by omega) (laws_heldIntS_c (by omega) ⟨by omega, by omega⟩ (prP_lss (cndP_no (by omega) (laws_heldStringS_c (by omega) ⟨by omega, by omega⟩ (prP_lss (cndP_no (by omega) ?_)))))))))))
  have e : k + szHp h = k + szL szHObj h.objs + szL szWk h.weaks + h.buffer.length + h.sites.length := by unfold szHp; omega
  rw [e] at h1; exact h1
/-- What the machine's numbers are. -/
structure Nums (h : Hp) : Prop where
  obj : ∀ o ∈ h.objs, F64 o.gen ∧ F64 o.site ∧ F64 o.holds ∧ F64 o.roots ∧ F64 o.count ∧ ∀ f ∈ o.field, F64 f
  weak : ∀ w ∈ h.weaks, F64 w.target
  buf : ∀ b ∈ h.buffer, F64 b
end Go.Proofs.Ytnhicpkhkaihoaa.P
