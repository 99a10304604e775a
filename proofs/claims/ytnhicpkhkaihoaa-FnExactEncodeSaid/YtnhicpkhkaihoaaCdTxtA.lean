/- The small functions of the laws over their pure texts. -/
import Derived.Test.YtnhicpkhkaihoaaCdEngM6
import Derived.Test.YtnhicpkhkaihoaaCdPZ6
namespace Go.Proofs.Ytnhicpkhkaihoaa.P
open Go Go.Proofs.Ytnhicpkhkaihoaa Go.Proofs.Ytnhicpkhkaihoaa.Eng
set_option linter.unusedVariables false
theorem laws_eqIntS_t {C : Ctx} {l m : List Int} {K : J2} (hl : (l.length : Int) < 2 ^ 62) (h : K [.bool (decide (l = m))] []) : laws_eqIntS.txt C (tI l) (tI m) K := by
  unfold laws_eqIntS.txt
  simp only [cnt_tI]
  refine prP_neN (cndP_neN (fun hne => ?_) fun he => ?_)
  · rw [decide_eq_false (fun hh => hne (by rw [hh]))] at h; exact h
  · refine loopP_up (fun i => [iv i]) (fun _ => []) l.length (fun i => l.take i = m.take i) (fun R i hi hP hR => ?_) (i := 0) (Nat.zero_le _) (by simp)
    refine prP_ltN (cndP_d (fun hlt => ?_) fun hge => ?_)
    · have hlt' : i < m.length := he ▸ hlt
      refine ixW_iv hlt (ldc_tI hlt (ixW_iv hlt' (ldc_tI hlt' (prP_neq (cndP_ne (fun hne => ?_) fun heq => ?_)))))
      · rw [decide_eq_false (fun hh => hne (by subst hh; rfl))] at h; exact h
      · exact prP_inc (by omega) (hR hlt (by rw [List.take_succ_eq_append_getElem hlt, List.take_succ_eq_append_getElem hlt', hP, heq]))
    · have : l = m := by
        rw [List.take_of_length_le (by omega), List.take_of_length_le (by omega)] at hP; exact hP
      rw [decide_eq_true this] at h; exact h
theorem laws_toIntS_t {C : Ctx} {l : List Int} {K : J2} (hl : (l.length : Int) < 2 ^ 40) (h : K [] [tI l]) : laws_toIntS.txt C (tI l) K := by
  unfold laws_toIntS.txt
  simp only [cnt_tI]
  refine ⟨l.length, rfl, rfl, by omega, ?_⟩
  refine loopP_from (fun i => [iv i]) (fun i => [tI (l.take i ++ List.replicate (l.length - i) 0)]) l.length (fun _ => True) rfl ?_ trivial (fun R i hi hP hR => ?_)
  · simp [natOf_iv, repT, tI]
  have hln : (l.take i ++ List.replicate (l.length - i) 0).length = l.length := by simp; omega
  have e : cnt 1 (nxc [tI (l.take i ++ List.replicate (l.length - i) 0)] 0) = l.length := (cnt_tI _).trans hln
  simp only [e]
  refine prP_ltN (cndP_d (fun hlt => ?_) fun hge => ?_)
  · refine ixW_iv hlt (ldc_tI hlt (ixW_iv hlt (stc_tI (by omega) (prP_inc (by omega) ?_))))
    have := hR hlt trivial
    have e2 : (l.take i ++ List.replicate (l.length - i) 0).set i l[i] = l.take (i + 1) ++ List.replicate (l.length - (i + 1)) 0 := by
      have hml : (l.take i).length = i := by simp; omega
      obtain ⟨k, hk⟩ : ∃ k, l.length - i = k + 1 := ⟨l.length - i - 1, by omega⟩
      rw [List.set_append_right _ _ (by omega), hml, Nat.sub_self, hk, List.replicate_succ, List.set_cons_zero, List.take_succ_eq_append_getElem hlt, show l.length - (i + 1) = k by omega, List.append_assoc]
      rfl
    rw [e2]
    exact this
  · have hi' : i = l.length := by omega
    subst hi'
    show K [] [tI (l.take l.length ++ List.replicate (l.length - l.length) 0)]
    rw [List.take_length, Nat.sub_self, List.replicate_zero, List.append_nil]; exact h
end Go.Proofs.Ytnhicpkhkaihoaa.P
