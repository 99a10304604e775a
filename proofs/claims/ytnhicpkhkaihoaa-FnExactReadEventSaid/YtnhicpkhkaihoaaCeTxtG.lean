/- ShowEvent. -/
import Derived.Test.YtnhicpkhkaihoaaCeTxtF
namespace Go.Proofs.Ytnhicpkhkaihoaa.P
open Go Go.Proofs.Ytnhicpkhkaihoaa Go.Proofs.Ytnhicpkhkaihoaa.Eng
set_option linter.unusedVariables false
def okE (n : Int) (l : List ByteArray) (a b c d : Int) (s : ByteArray) (k v : Int) (xs : List Int) : Bool := (spkB a b c d s && ansB k v xs) && penB n l
def Fx (q : ByteArray × Int) (x : Int) : ByteArray × Int := (q.1 ++ SI (x - q.2), x)
def base (n : Int) (l : List ByteArray) (a b c d : Int) (s : ByteArray) (k v : Int) (m : Nat) : ByteArray := ((((((SI a ++ SI (b - n)) ++ SI c) ++ SI (d - b)) ++ siteB l s) ++ V k) ++ SI (v - b)) ++ V m
def stE (p : ByteArray × Int) (xs : List Int) (i : Nat) : ByteArray × Int := (xs.take i).foldl Fx p
theorem stE_succ {p : ByteArray × Int} {xs : List Int} {i : Nat} (hi : i < xs.length) : stE p xs (i + 1) = Fx (stE p xs i) xs[i] := by
  rw [stE, List.take_succ_eq_append_getElem hi, List.foldl_append]; rfl
theorem stE_ok {p : ByteArray × Int} {xs : List Int} (hp : argB p.2 = true) (hx : xs.all argB = true) : ∀ i, i ≤ xs.length → argB (stE p xs i).2 = true ∧ (stE p xs i).1.size ≤ p.1.size + 7 * i
  | 0, _ => ⟨hp, Nat.le_refl _⟩
  | i + 1, hi => by
    obtain ⟨h1, h2⟩ := stE_ok hp hx i (by omega)
    rw [stE_succ (by omega)]
    refine ⟨List.all_eq_true.1 hx _ (List.getElem_mem _), ?_⟩
    have := V_size (zg (xs[i] - (stE p xs i).2))
    simp only [Fx, ByteArray.size_append, SI]; omega
theorem siteB_size (l : List ByteArray) (s : ByteArray) : (siteB l s).size ≤ 22 := by
  unfold siteB; split
  · have := V_size (at_ l s + 1); omega
  · have h1 := V_size 0
    have h2 := ST_size s
    rw [ByteArray.size_append]; omega
theorem SI_size (n : Int) : (SI n).size ≤ 7 := V_size _
theorem argB_b {n : Int} (h : argB n = true) : -1000000000 ≤ n ∧ n ≤ 1000000000 := inB_iff.1 h
def showR (n : Int) (l : List ByteArray) (a b c d : Int) (s : ByteArray) (k v : Int) (xs : List Int) : ByteArray × Int × List ByteArray :=
  if okE n l a b c d s k v xs then ((stE (base n l a b c d s k v xs.length, b) xs xs.length).1, b, penT l s) else (⟨#[]⟩, n, l)
theorem ok_parts {n : Int} {l : List ByteArray} {a b c d : Int} {s : ByteArray} {k v : Int} {xs : List Int} (h : okE n l a b c d s k v xs = true) : argB a = true ∧ argB b = true ∧ argB c = true ∧ argB d = true ∧ argB v = true ∧ argB n = true ∧ xs.all argB = true ∧ xs.length ≤ 8 ∧ (0 ≤ k ∧ k ≤ 6) ∧ l.length ≤ 400 := by
  simp only [okE, spkB, ansB, penB, Bool.and_eq_true, decide_eq_true_eq] at h
  exact ⟨h.1.1.1.1.1.1, h.1.1.1.1.1.2, h.1.1.1.1.2, h.1.1.1.2, h.1.2.1.1.2, h.2.1.1, h.1.2.2, h.1.2.1.2, inB_iff.1 h.1.2.1.1.1, h.2.1.2⟩
theorem base_size (n : Int) (l : List ByteArray) (a b c d : Int) (s : ByteArray) (k v : Int) (m : Nat) : (base n l a b c d s k v m).size ≤ 71 := by
  have h1 := SI_size a; have h2 := SI_size (b - n); have h3 := SI_size c; have h4 := SI_size (d - b); have h5 := siteB_size l s; have h6 := V_size k; have h7 := SI_size (v - b); have h8 := V_size m
  simp only [base, ByteArray.size_append]; omega
theorem spec_ShowEvent_c {w0 : World} {n : Int} {l : List ByteArray} {a b c d : Int} {s : ByteArray} {k v : Int} {xs : List Int} {K : J2} (hl : l.length < 2 ^ 40) (hx : (xs.length : Int) < 2 ^ 62)
    (h : K [.string (showR n l a b c d s k v xs).1, I (showR n l a b c d s k v xs).2.1] [tS (showR n l a b c d s k v xs).2.2]) : cl2 ⟨Try.prog, w0⟩ 52 spec_ShowEvent.sg [I n, I a, I b, I c, I d, .string s, I k, I v] [tS l, tI xs] K := by
  refine spec_ShowEvent.cl2 ?_
  unfold spec_ShowEvent.txt
  simp only [cnt_tS, cnt_tI]
  refine spec_Speakable_c (prP_not (gE_b (gP_orN (fun _ K hk => spec_l10AnswerOk_c hx hk) (gE_b (gP_orN (fun _ K hk => spec_l10PenOk_c (by omega) hk) (cndP_i (fun hb => ?_) fun hb => ?_))))))
  · have hno : okE n l a b c d s k v xs = false := by
      revert hb; unfold okE
      cases spkB a b c d s <;> cases ansB k v xs <;> cases penB n l <;> simp
    rw [showR, hno] at h
    refine apW_i (flat_tS l) (by simp [cnt]; omega) ?_
    rw [List.nil_append]; exact h
  · have hok : okE n l a b c d s k v xs = true := by
      revert hb; unfold okE
      cases spkB a b c d s <;> cases ansB k v xs <;> cases penB n l <;> simp
    rw [showR, if_pos hok] at h
    obtain ⟨ha, hb, hc, hd, hv, hn, hxs, hxl, hk, hll⟩ := ok_parts hok
    have a1 := argB_b ha; have b1 := argB_b hb; have c1 := argB_b hc; have d1 := argB_b hd; have v1 := argB_b hv; have n1 := argB_b hn
    have h1 := SI_size a; have h2 := SI_size (b - n); have h3 := SI_size c; have h4 := SI_size (d - b); have h5 := siteB_size l s; have h6 := V_size k; have h7 := SI_size (v - b); have h8 := V_size xs.length
    refine spec_l10Site_c hl (spec_ShowInt_c (prP_sub ⟨by omega, by omega⟩ (spec_ShowInt_c (prP_catS (by omega) (spec_ShowInt_c (prP_catS (by simp only [ByteArray.size_append]; omega) (prP_sub ⟨by omega, by omega⟩ (spec_ShowInt_c (prP_catS (by simp only [ByteArray.size_append]; omega) (prP_catS (by simp only [ByteArray.size_append]; omega) (spec_Var_c ⟨by omega, by omega⟩ (prP_catS (by simp only [ByteArray.size_append]; omega) (prP_sub ⟨by omega, by omega⟩ (spec_ShowInt_c (prP_catS (by simp only [ByteArray.size_append]; omega) (spec_Var_c (n := Int.ofNat xs.length) ⟨by simp only [Int.ofNat_eq_natCast]; omega, by simp only [Int.ofNat_eq_natCast]; omega⟩ (prP_catS (by simp only [Int.ofNat_eq_natCast, ByteArray.size_append]; omega) ?_)))))))))))))))))
    have hbs := base_size n l a b c d s k v xs.length
    refine loopP_from (fun i => [.string (stE (base n l a b c d s k v xs.length, b) xs i).1, I (stE (base n l a b c d s k v xs.length, b) xs i).2, iv i, I a, I b, I c, I d, .string s, I k, I v, .int .i64 0, I n]) (fun _ => [tS (penT l s)]) xs.length (fun _ => True) rfl rfl trivial (fun R i hi _ hR => ?_)
    refine prP_ltN (cndP_d (fun hlt => ?_) fun hge => ?_)
    · obtain ⟨q1, q2⟩ := stE_ok (p := (base n l a b c d s k v xs.length, b)) hb hxs i hi
      have q3 := argB_b q1
      have q4 := argB_b (List.all_eq_true.1 hxs _ (List.getElem_mem hlt))
      simp only at q2
      have q5 := SI_size (xs[i] - (stE (base n l a b c d s k v xs.length, b) xs i).2)
      have := hR hlt trivial
      rw [stE_succ hlt] at this
      exact ixW_iv hlt (ldc_tI hlt (prP_sub ⟨by omega, by omega⟩ (spec_ShowInt_c (prP_catS (by omega) (ixW_iv hlt (ldc_tI hlt (prP_inc (by omega) this)))))))
    · have : i = xs.length := by omega
      subst this
      exact h
end Go.Proofs.Ytnhicpkhkaihoaa.P
