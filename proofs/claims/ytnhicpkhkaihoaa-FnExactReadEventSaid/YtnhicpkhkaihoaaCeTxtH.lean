/- ShowEvent, the program's. -/
import Derived.Test.YtnhicpkhkaihoaaCeTxtG
namespace Go.Proofs.Ytnhicpkhkaihoaa.P
open Go Go.Proofs.Ytnhicpkhkaihoaa Go.Proofs.Ytnhicpkhkaihoaa.Eng
set_option linter.unusedVariables false
theorem joinP_i {f : J2} {g : J2 → Prop} (P : List Value → List (List T) → Prop) (h1 : ∀ xs cs, P xs cs → f xs cs) (h2 : ∀ j : J2, (∀ xs cs, P xs cs → j xs cs) → g j) : joinP f g := h2 f h1
theorem impl_ShowEvent_c {w0 : World} {n : Int} {l : List ByteArray} {a b c d : Int} {s : ByteArray} {k v : Int} {xs : List Int} {K : J2} (hl : l.length < 2 ^ 40) (hx : (xs.length : Int) < 2 ^ 62)
    (h : K [.string (showR n l a b c d s k v xs).1, I (showR n l a b c d s k v xs).2.1] [tS (showR n l a b c d s k v xs).2.2]) : cl2 ⟨Try.prog, w0⟩ 51 impl_ShowEvent.sg [I n, I a, I b, I c, I d, .string s, I k, I v] [tS l, tI xs] K := by
  refine impl_ShowEvent.cl2 ?_
  unfold impl_ShowEvent.txt
  simp only [cnt_tS, cnt_tI]
  refine impl_copyPen_c (by omega) (impl_Speakable_c (prP_not (gE_b (gP_orN (fun _ K hk => impl_answerable_c hx hk) (gE_b (gP_orN (fun _ K hk => impl_penOk_c (by omega) hk) (cndP_i (fun hb => ?_) fun hb => ?_)))))))
  · have hno : okE n l a b c d s k v xs = false := by
      revert hb; unfold okE
      cases spkB a b c d s <;> cases ansB k v xs <;> cases penB n l <;> simp
    rw [showR, hno] at h
    exact h
  · have hok : okE n l a b c d s k v xs = true := by
      revert hb; unfold okE
      cases spkB a b c d s <;> cases ansB k v xs <;> cases penB n l <;> simp
    rw [showR, if_pos hok] at h
    obtain ⟨ha, hb, hc, hd, hv, hn, hxs, hxl, hk, hll⟩ := ok_parts hok
    have a1 := argB_b ha; have b1 := argB_b hb; have c1 := argB_b hc; have d1 := argB_b hd; have v1 := argB_b hv; have n1 := argB_b hn
    have h1 := SI_size a; have h2 := SI_size (b - n); have h3 := SI_size c; have h4 := SI_size (d - b); have h5 := siteB_size l s; have h6 := V_size k; have h7 := SI_size (v - b); have h8 := V_size xs.length
    refine impl_ShowInt_c (prP_sub ⟨by omega, by omega⟩ (impl_ShowInt_c (prP_catS (by omega) (impl_ShowInt_c (prP_catS (by simp only [ByteArray.size_append]; omega) (prP_sub ⟨by omega, by omega⟩ (impl_ShowInt_c (prP_catS (by simp only [ByteArray.size_append]; omega) ?_))))))))
    refine joinP_i (fun ys cs => ys = [.string (((((SI a ++ SI (b - n)) ++ SI c) ++ SI (d - b))) ++ siteB l s), I a, I b, I c, I d, .string s, I k, I v, .int .i64 0, I b] ∧ cs = [tS (penT l s)]) (fun ys cs hp => ?_) fun j hj => ?_
    · obtain ⟨rfl, rfl⟩ := hp
      refine impl_Var_c ⟨by omega, by omega⟩ (prP_sub ⟨by omega, by omega⟩ (impl_ShowInt_c (prP_catS (by omega) (impl_Var_c (n := Int.ofNat xs.length) ⟨by simp only [Int.ofNat_eq_natCast]; omega, by simp only [Int.ofNat_eq_natCast]; omega⟩ (prP_catS (by simp only [Int.ofNat_eq_natCast, ByteArray.size_append]; omega) (prP_catS (by simp only [Int.ofNat_eq_natCast, ByteArray.size_append]; omega) ?_))))))
      have hbs := base_size n l a b c d s k v xs.length
      refine loopP_from (fun i => [.string (stE (base n l a b c d s k v xs.length, b) xs i).1, I (stE (base n l a b c d s k v xs.length, b) xs i).2, iv xs.length, iv i, .int .i64 0, I b]) (fun _ => [tS (penT l s)]) xs.length (fun _ => True) ?_ rfl trivial (fun R i hi _ hR => ?_)
      · have e : (stE (base n l a b c d s k v xs.length, b) xs 0) = (base n l a b c d s k v xs.length, b) := rfl
        rw [e]
        simp only [base, ByteArray.append_assoc, Int.ofNat_eq_natCast]
        rfl
      refine prP_ltN (cndP_d (fun hlt => ?_) fun hge => ?_)
      · obtain ⟨q1, q2⟩ := stE_ok (p := (base n l a b c d s k v xs.length, b)) hb hxs i hi
        have q3 := argB_b q1
        have q4 := argB_b (List.all_eq_true.1 hxs _ (List.getElem_mem hlt))
        simp only at q2
        have q5 := SI_size (xs[i] - (stE (base n l a b c d s k v xs.length, b) xs i).2)
        have := hR hlt trivial
        rw [stE_succ hlt] at this
        exact ixW_iv hlt (ldc_tI hlt (prP_sub ⟨by omega, by omega⟩ (impl_ShowInt_c (prP_catS (by omega) (prP_inc (by omega) this)))))
      · have : i = xs.length := by omega
        subst this
        exact h
    · refine impl_textAt_c (by omega) (prP_geq (b := 0) (cndP_d (fun hge => ?_) fun hlt => ?_))
      · have hm : s ∈ l := by
          by_cases hm : s ∈ l
          · exact hm
          · rw [at_, if_neg hm] at hge; omega
        have hat : at_ l s ≤ l.length := by rw [at_, if_pos hm]; have := List.idxOf_lt_length_of_mem hm; omega
        have hv := V_size (at_ l s + 1)
        refine prP_add (b := 1) ⟨by omega, by omega⟩ (impl_Var_c ⟨by omega, by omega⟩ (prP_catS (by simp only [ByteArray.size_append]; omega) (hj _ _ ⟨?_, ?_⟩)))
        · rw [siteB, if_pos hm]
        · rw [penT, if_pos hm]; rfl
      · have hm : s ∉ l := by
          intro hm
          rw [at_, if_pos hm] at hlt; omega
        have hv := V_size 0
        have hs := ST_size s
        refine impl_Var_c ⟨by omega, by omega⟩ (impl_ShowText_c (prP_catS (by omega) (prP_catS (by simp only [ByteArray.size_append]; omega) (apW_i rfl ?_ (hj _ _ ⟨?_, ?_⟩)))))
        · have hc : cnt 1 (nxc [tS l] 0) = l.length := cnt_tS l
          rw [hc]; simp [cnt]; omega
        · rw [siteB, if_neg hm]
        · rw [penT, if_neg hm]; simp [tS, nxc]
end Go.Proofs.Ytnhicpkhkaihoaa.P
