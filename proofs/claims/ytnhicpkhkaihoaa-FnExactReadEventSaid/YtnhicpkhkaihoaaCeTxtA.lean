/- The small functions of the laws over their pure texts. -/
import Derived.Test.YtnhicpkhkaihoaaCeEngM6
import Derived.Test.YtnhicpkhkaihoaaCePZ6
namespace Go.Proofs.Ytnhicpkhkaihoaa.P
open Go Go.Proofs.Ytnhicpkhkaihoaa Go.Proofs.Ytnhicpkhkaihoaa.Eng
set_option linter.unusedVariables false
theorem laws_eqIntS_t {C : Ctx} {l m : List Int} {K : J2} (hl : (l.length : Int) < 2 ^ 62) (h : K [.bool (decide (l = m))] []) : laws_eqIntS.txt C (tI l) (tI m) K := by
  unfold laws_eqIntS.txt
  simp only [cnt_tI]
  refine prP_neN (cndP_neN (fun hne => ?_) fun he => ?_)
  · rw [decide_eq_false (fun hh => hne (by rw [hh]))] at h; exact h
  · refine loopP_up (fun i => [iv i]) (fun _ => []) l.length (fun i => l.take i = m.take i) (fun R i hi hP hR => ?_) (i := 0) (Nat.zero_le _) (by simp)
    refine prP_ltN (cndP_d (fun hlt => ?_) fun hge => ?_)
    · have hlt' : i < m.length := he ▸ hlt
      refine ixW_iv hlt (ldc_tI hlt (ixW_iv hlt' (ldc_tI hlt' (prP_neq (cndP_ne (fun hne => ?_) fun heq => ?_)))))
      · rw [decide_eq_false (fun hh => hne (by subst hh; rfl))] at h; exact h
      · exact prP_inc (by omega) (hR hlt (by rw [List.take_succ_eq_append_getElem hlt, List.take_succ_eq_append_getElem hlt', hP, heq]))
    · have : l = m := by
        rw [List.take_of_length_le (by omega), List.take_of_length_le (by omega)] at hP; exact hP
      rw [decide_eq_true this] at h; exact h
/-- What the marks make of a row. -/
def marks (n : Int) (k : Nat) : List Int := (List.range k).map fun (i : Nat) => n + i
theorem laws_markIntS_t {C : Ctx} {n : Int} {l : List Int} {K : J2} (hl : (l.length : Int) < 2 ^ 62) (hn : 0 ≤ n ∧ n < 2 ^ 62) (h : K [I (n + l.length)] [tI (marks n l.length)]) : laws_markIntS.txt C (I n) (tI l) K := by
  unfold laws_markIntS.txt
  refine loopP_from (fun i => [I (n + i), iv i]) (fun i => [tI (marks n i ++ l.drop i)]) l.length (fun _ => True) (by simp [iv_eq]) (by simp [marks]) trivial (fun R i hi hP hR => ?_)
  have hln : (marks n i ++ l.drop i).length = l.length := by simp [marks]; omega
  have e : cnt 1 (nxc [tI (marks n i ++ l.drop i)] 0) = l.length := (cnt_tI _).trans hln
  simp only [e]
  refine prP_ltN (cndP_d (fun hlt => ?_) fun hge => ?_)
  · refine ixW_iv hlt (stc_tI (by omega) (prP_add (b := 1) ⟨by omega, by omega⟩ (prP_inc (by omega) ?_)))
    have := hR hlt trivial
    have e2 : (marks n i ++ l.drop i).set i (n + i) = marks n (i + 1) ++ l.drop (i + 1) := by
      have hml : (marks n i).length = i := by simp [marks]
      have hd : (l.drop i).set 0 (n + i) = (n + i) :: l.drop (i + 1) := by rw [List.drop_eq_getElem_cons hlt]; rfl
      rw [List.set_append_right _ _ (by omega), hml, Nat.sub_self, hd]
      simp [marks, List.range_succ]
    rw [e2]
    simpa [Int.add_assoc] using this
  · have hi' : i = l.length := by omega
    subst hi'
    show K [I (n + l.length)] [tI (marks n l.length ++ l.drop l.length)]
    rw [List.drop_length, List.append_nil]; exact h
end Go.Proofs.Ytnhicpkhkaihoaa.P
