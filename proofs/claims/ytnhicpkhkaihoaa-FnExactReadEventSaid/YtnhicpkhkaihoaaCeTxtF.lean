/- ShowEvent's pens and sites. -/
import Derived.Test.YtnhicpkhkaihoaaCeTxtE
namespace Go.Proofs.Ytnhicpkhkaihoaa.P
open Go Go.Proofs.Ytnhicpkhkaihoaa Go.Proofs.Ytnhicpkhkaihoaa.Eng
set_option linter.unusedVariables false
def szB (s : ByteArray) : Bool := decide ((s.size : Int) ≤ 8)
def goodT (l : List ByteArray) : Bool := l.all szB && decide l.Nodup
def penB (n : Int) (l : List ByteArray) : Bool := (argB n && decide (l.length ≤ 400)) && goodT l
theorem good_take {l : List ByteArray} {i : Nat} (hi : i < l.length) : goodT (l.take (i + 1)) = true ↔ goodT (l.take i) = true ∧ szB l[i] = true ∧ l[i] ∉ l.take i := by
  rw [List.take_succ_eq_append_getElem hi]
  simp only [goodT, Bool.and_eq_true, decide_eq_true_eq, List.all_append, List.all_cons, List.all_nil, Bool.and_true, List.nodup_append, List.nodup_cons, List.not_mem_nil, not_false_eq_true, List.nodup_nil, and_true, true_and, List.mem_singleton]
  constructor
  · rintro ⟨⟨h1, h2⟩, h3, h4⟩
    exact ⟨⟨h1, h3⟩, h2, fun hm => h4 _ hm _ rfl rfl⟩
  · rintro ⟨⟨h1, h2⟩, h3, h4⟩
    exact ⟨⟨h1, h3⟩, h2, fun a ha b hb he => h4 (by rw [← hb, ← he]; exact ha)⟩
theorem good_bad {l : List ByteArray} {i : Nat} (hi : i < l.length) (h : szB l[i] = false ∨ l[i] ∈ l.take i) : goodT l = false := by
  cases hg : goodT l
  · rfl
  · exfalso
    have : goodT (l.take (i + 1)) = true := by
      simp only [goodT, Bool.and_eq_true, decide_eq_true_eq] at hg ⊢
      refine ⟨?_, hg.2.sublist (List.take_sublist _ _)⟩
      rw [List.all_eq_true] at hg ⊢
      exact fun x hx => hg.1 x (List.mem_of_mem_take hx)
    obtain ⟨_, h1, h2⟩ := (good_take hi).1 this
    rcases h with h | h
    · rw [h] at h1; cases h1
    · exact h2 h
theorem spec_l10PenOk_c {w0 : World} {n : Int} {l : List ByteArray} {K : J2} (hl : (l.length : Int) < 2 ^ 62) (h : K [.bool (penB n l)] []) : cl2 ⟨Try.prog, w0⟩ 120 spec_l10PenOk.sg [I n] [tS l] K := by
  refine spec_l10PenOk.cl2 ?_
  unfold spec_l10PenOk.txt
  simp only [cnt_tS]
  refine loopP_from (fun i => [iv i, I n]) (fun _ => []) l.length (fun i => goodT (l.take i) = true) rfl rfl (by simp [goodT]) (fun R i hi hP hR => ?_)
  refine prP_ltN (cndP_d (fun hlt => ?_) fun hge => ?_)
  · refine ixW_iv hlt (ldc_tS hlt (prP_lnS (prP_gtr (b := 8) (cndP_d (fun hb => ?_) fun hb => ?_))))
    · have : goodT l = false := good_bad hlt (.inl (by simp [szB]; omega))
      rw [penB, this, Bool.and_false] at h; exact h
    · have hs : szB l[i] = true := by simp [szB]; omega
      refine loopP_from (fun j => [iv i, iv j, I n]) (fun _ => []) i (fun j => l[i] ∉ l.take j) rfl rfl (by simp) (fun R2 j hj hP2 hR2 => ?_)
      refine prP_ltN (cndP_d (fun hlt2 => ?_) fun hge2 => ?_)
      · have hjl : j < l.length := by omega
        refine ixW_iv hjl (ldc_tS hjl (ixW_iv hlt (ldc_tS hlt (prP_eqlS (cndP_eqS (fun he => ?_) fun hne => ?_)))))
        · have : goodT l = false := good_bad hlt (.inr (by rw [← he]; exact List.mem_take_iff_getElem.2 ⟨j, by omega, rfl⟩))
          rw [penB, this, Bool.and_false] at h; exact h
        · exact prP_inc (by omega) (hR2 hlt2 (notin_take hjl hP2 hne))
      · have : j = i := by omega
        subst this
        exact prP_inc (by omega) (hR hlt ((good_take hlt).2 ⟨hP, hs, hP2⟩))
  · have : i = l.length := by omega
    subst this
    rw [List.take_length] at hP
    refine spec_l1In_c (gE_b (gE_b (gE_b (gP_and (fun _ K hk => prP_leN (b := 400) hk) ?_))))
    rw [penB, hP, Bool.and_true] at h; exact h
theorem scW_to {n i : Nat} (hi : i ≤ n) {K : Value → Value → Prop} (h : K (iv 0) (iv i)) : scW n none (some (iv i)) K :=
  ⟨0, i, rfl, by simp [bnd, iv], Nat.zero_le _, hi, h⟩
theorem gP_or2 {a b : Bool} {x : Value} {m1 : (Value → Prop) → Prop} {m2 : Value → (Value → Prop) → Prop} {K : Value → Prop} (h1 : a = false → ∀ K : Value → Prop, K x → m1 K) (h2 : a = false → ∀ K : Value → Prop, K (.bool b) → m2 x K) (h : K (.bool (a || b))) :
    gP (.bool a) false m1 fun x => gE (.bool a) (gP (.bool a) false (m2 x) fun t => prP (pk (.bool a) (.bool true) t) K) := by
  cases a
  · exact .inl ⟨rfl, h1 rfl _ (gE_b (.inl ⟨rfl, h2 rfl _ (prP_some rfl (by simpa using h))⟩))⟩
  · exact .inr ⟨.inl rfl, gE_b (.inr ⟨.inl rfl, prP_some rfl h⟩)⟩
theorem impl_penOk_c {w0 : World} {n : Int} {l : List ByteArray} {K : J2} (hl : (l.length : Int) < 2 ^ 62) (h : K [.bool (penB n l)] []) : cl2 ⟨Try.prog, w0⟩ 113 impl_penOk.sg [I n] [tS l] K := by
  refine impl_penOk.cl2 ?_
  unfold impl_penOk.txt
  simp only [cnt_tS]
  refine loopP_from (fun i => [iv l.length, iv i, I n]) (fun _ => []) l.length (fun i => goodT (l.take i) = true) rfl rfl (by simp [goodT]) (fun R i hi hP hR => ?_)
  refine prP_ltN (cndP_d (fun hlt => ?_) fun hge => ?_)
  · refine ixW_iv hlt (ldc_tS hlt (prP_lnS (prP_gtr (b := 8) (gE_b (gE_b (gE_b (gP_or2 (x := two (iv 0) (iv i)) (b := decide (l[i] ∈ l.take i)) (fun _ K hk => scW_to hi hk) (fun _ K hk => ?_) ?_)))))))
    · have e : sub2 (tS l) [] (natOf (fst2 (two (iv 0) (iv i))) * 1) (natOf (snd2 (two (iv 0) (iv i))) * 1) = tS (l.take i) := by
        have h1 : natOf (fst2 (two (iv 0) (iv i))) = 0 := rfl
        have h2 : natOf (snd2 (two (iv 0) (iv i))) = i := natOf_iv i
        rw [h1, h2]; simp [sub2, node, tS, List.map_take]
      rw [e]
      exact impl_hasText_c (by simp; omega) hk
    · refine cndP_i (fun hb => ?_) fun hb => ?_
      · have : goodT l = false := good_bad hlt (by
          rw [Bool.or_eq_true, decide_eq_true_eq, decide_eq_true_eq] at hb
          exact hb.imp (fun h => by simp [szB]; omega) id)
        rw [penB, this, Bool.and_false] at h; exact h
      · rw [Bool.or_eq_false_iff, decide_eq_false_iff_not, decide_eq_false_iff_not] at hb
        exact prP_inc (by omega) (hR hlt ((good_take hlt).2 ⟨hP, by simp [szB]; omega, hb.2⟩))
  · have : i = l.length := by omega
    subst this
    rw [List.take_length] at hP
    refine impl_isArg_c (gE_b (gE_b (gE_b (gP_and (fun _ K hk => prP_leN (b := 400) hk) ?_))))
    rw [penB, hP, Bool.and_true] at h; exact h
def siteB (l : List ByteArray) (s : ByteArray) : ByteArray := if s ∈ l then V (at_ l s + 1) else V 0 ++ ST s
def penT (l : List ByteArray) (s : ByteArray) : List ByteArray := if s ∈ l then l else l ++ [s]
theorem spec_l10Site_c {w0 : World} {n : Value} {l : List ByteArray} {s : ByteArray} {K : J2} (hl : l.length < 2 ^ 40) (h : K [.string (siteB l s), n] [tS (penT l s)]) : cl2 ⟨Try.prog, w0⟩ 121 spec_l10Site.sg [n, .string s] [tS l] K := by
  refine spec_l10Site.cl2 ?_
  unfold spec_l10Site.txt
  simp only [cnt_tS, List.nil_append]
  refine apW_i (flat_tS l) (by simp [cnt]; omega) ?_
  refine loopP_from (fun i => [.string s, iv i, n, .int .i64 0, n]) (fun _ => [tS l]) l.length (fun i => s ∉ l.take i) rfl rfl (by simp) (fun R i hi hP hR => ?_)
  refine prP_ltN (cndP_d (fun hlt => ?_) fun hge => ?_)
  · refine ixW_iv hlt (ldc_tS hlt (prP_eqlS (cndP_eqS (fun he => ?_) fun hne => ?_)))
    · have hm : s ∈ l := he ▸ List.getElem_mem hlt
      rw [siteB, penT, if_pos hm, if_pos hm, at_here hlt hP he] at h
      refine prP_inc (by omega) (spec_Var_c (n := Int.ofNat (i + 1)) ⟨by simp only [Int.ofNat_eq_natCast]; omega, by simp only [Int.ofNat_eq_natCast]; omega⟩ ?_)
      exact h
    · exact prP_inc (by omega) (hR hlt (notin_take hlt hP hne))
  · have : i = l.length := by omega
    subst this
    rw [List.take_length] at hP
    rw [siteB, penT, if_neg hP, if_neg hP] at h
    have hc : cnt 1 (nxc [tS l] 0) = l.length := cnt_tS l
    rw [hc]
    have h1 := V_size 0
    have h2 := ST_size s
    refine apW_i rfl (by simp [cnt]; omega) (spec_Var_c ⟨by omega, by omega⟩ (spec_ShowText_c (prP_catS (by omega) ?_)))
    have e : nxc [tS l] 0 ++ [T.c (nx [.string s, iv l.length, n, .int .i64 0, n] 0)] = tS (l ++ [s]) := by simp [tS, nxc, nx]
    rw [e]; exact h
end Go.Proofs.Ytnhicpkhkaihoaa.P
