/- ShowEvent's small functions, the reference's and the program's. -/
import Derived.Test.YtnhicpkhkaihoaaCeTxtB
namespace Go.Proofs.Ytnhicpkhkaihoaa.P
open Go Go.Proofs.Ytnhicpkhkaihoaa Go.Proofs.Ytnhicpkhkaihoaa.Eng
set_option linter.unusedVariables false
/-! ### && and || -/
theorem gE_b {b : Bool} {q : Prop} (h : q) : gE (.bool b) q := ⟨rfl, h⟩
theorem gP_and {a b : Bool} {m : (Value → Prop) → Prop} {K : Value → Prop} (hm : a = true → ∀ K : Value → Prop, K (.bool b) → m K) (h : K (.bool (a && b))) : gP (.bool a) true m fun t => prP (pk (.bool a) t (.bool false)) K := by
  cases a
  · exact .inr ⟨.inl rfl, prP_some rfl h⟩
  · exact .inl ⟨rfl, hm rfl _ (prP_some rfl (by simpa using h))⟩
theorem gP_and2 {a b : Bool} {x : Value} {m1 : (Value → Prop) → Prop} {m2 : Value → (Value → Prop) → Prop} {K : Value → Prop} (h1 : a = true → ∀ K : Value → Prop, K x → m1 K) (h2 : a = true → ∀ K : Value → Prop, K (.bool b) → m2 x K) (h : K (.bool (a && b))) :
    gP (.bool a) true m1 fun x => gP (.bool a) true (m2 x) fun t => prP (pk (.bool a) t (.bool false)) K := by
  cases a
  · exact .inr ⟨.inl rfl, .inr ⟨.inl rfl, prP_some rfl h⟩⟩
  · exact .inl ⟨rfl, h1 rfl _ (.inl ⟨rfl, h2 rfl _ (prP_some rfl (by simpa using h))⟩)⟩
theorem gP_or {a b : Bool} {m : (Value → Prop) → Prop} {K : Value → Prop} (hm : a = false → ∀ K : Value → Prop, K (.bool b) → m K) (h : K (.bool (a || b))) : gP (.bool a) false m fun t => prP (pk (.bool a) (.bool true) t) K := by
  cases a
  · exact .inl ⟨rfl, hm rfl _ (prP_some rfl (by simpa using h))⟩
  · exact .inr ⟨.inl rfl, prP_some rfl h⟩
theorem gP_orN {a b : Bool} {m : (Value → Prop) → Prop} {K : Value → Prop} (hm : a = false → ∀ K : Value → Prop, K (.bool b) → m K) (h : K (.bool (a || !b))) : gP (.bool a) false m fun t => gP (.bool a) false (prP (un .not t)) fun t => prP (pk (.bool a) (.bool true) t) K := by
  cases a
  · exact .inl ⟨rfl, hm rfl _ (.inl ⟨rfl, prP_not (prP_some rfl (by simpa using h))⟩)⟩
  · exact .inr ⟨.inl rfl, .inr ⟨.inl rfl, prP_some rfl h⟩⟩
/-! ### Numbers in bounds -/
def inB (n lo hi : Int) : Bool := decide (n ≥ lo) && decide (n ≤ hi)
theorem spec_l1In_t {C : Ctx} {n lo hi : Int} {K : J2} (h : K [.bool (inB n lo hi)] []) : spec_l1In.txt C (I n) (I lo) (I hi) K :=
  prP_geq (gE_b (gE_b (gP_and (fun _ K hk => prP_leq hk) h)))
theorem impl_in_t {C : Ctx} {n lo hi : Int} {K : J2} (h : K [.bool (inB n lo hi)] []) : impl_in.txt C (I n) (I lo) (I hi) K :=
  prP_geq (gE_b (gE_b (gP_and (fun _ K hk => prP_leq hk) h)))
theorem spec_l1In_c {w0 : World} {n lo hi : Int} {K : J2} (h : K [.bool (inB n lo hi)] []) : cl2 ⟨Try.prog, w0⟩ 154 spec_l1In.sg [I n, I lo, I hi] [] K := spec_l1In.cl2 (spec_l1In_t h)
theorem impl_in_c {w0 : World} {n lo hi : Int} {K : J2} (h : K [.bool (inB n lo hi)] []) : cl2 ⟨Try.prog, w0⟩ 157 impl_in.sg [I n, I lo, I hi] [] K := impl_in.cl2 (impl_in_t h)
def argB (n : Int) : Bool := inB n (-1000000000) 1000000000
theorem impl_isArg_c {w0 : World} {n : Int} {K : J2} (h : K [.bool (argB n)] []) : cl2 ⟨Try.prog, w0⟩ 126 impl_isArg.sg [I n] [] K := impl_isArg.cl2 (impl_in_c h)
def spkB (a b c d : Int) (s : ByteArray) : Bool := (((argB a && argB b) && argB c) && argB d) && decide ((s.size : Int) ≤ 8)
theorem spec_Speakable_c {w0 : World} {a b c d : Int} {s : ByteArray} {K : J2} (h : K [.bool (spkB a b c d s)] []) : cl2 ⟨Try.prog, w0⟩ 118 spec_Speakable.sg [I a, I b, I c, I d, .string s] [] K :=
  spec_Speakable.cl2 (spec_l1In_c (gE_b (gE_b (gP_and (fun _ K hk => spec_l1In_c hk) (gE_b (gE_b (gP_and (fun _ K hk => spec_l1In_c hk) (gE_b (gE_b (gP_and (fun _ K hk => spec_l1In_c hk) (gE_b (gE_b (gP_and2 (fun _ K hk => prP_lnS hk) (fun _ K hk => prP_leq hk) h)))))))))))))
theorem impl_Speakable_c {w0 : World} {a b c d : Int} {s : ByteArray} {K : J2} (h : K [.bool (spkB a b c d s)] []) : cl2 ⟨Try.prog, w0⟩ 56 impl_Speakable.sg [I a, I b, I c, I d, .string s] [] K :=
  impl_Speakable.cl2 (impl_isArg_c (gE_b (gE_b (gP_and (fun _ K hk => impl_isArg_c hk) (gE_b (gE_b (gP_and (fun _ K hk => impl_isArg_c hk) (gE_b (gE_b (gP_and (fun _ K hk => impl_isArg_c hk) (gE_b (gE_b (gP_and2 (fun _ K hk => prP_lnS hk) (fun _ K hk => prP_leq hk) h)))))))))))))
/-! ### Answers -/
def ansB (c v : Int) (l : List Int) : Bool := (inB c 0 6 && argB v && decide (l.length ≤ 8)) && l.all argB
theorem prP_gtN {a b : Nat} {K : Value → Prop} (h : K (.bool (decide (a > b)))) : prP (bnI .gtr (iv a) (iv b)) K := prP_gtr (a := Int.ofNat a) (b := Int.ofNat b) (by
  have : decide (Int.ofNat a > Int.ofNat b) = decide (a > b) := by simp
  rw [this]; exact h)
theorem prP_leN {a b : Nat} {K : Value → Prop} (h : K (.bool (decide (a ≤ b)))) : prP (bnI .leq (iv a) (iv b)) K := prP_leq (a := Int.ofNat a) (b := Int.ofNat b) (by
  have : decide (Int.ofNat a ≤ Int.ofNat b) = decide (a ≤ b) := by simp
  rw [this]; exact h)
theorem all_take {l : List Int} {i : Nat} (hi : i < l.length) (p : Int → Bool) : (l.take (i + 1)).all p = ((l.take i).all p && p l[i]) := by
  rw [List.take_succ_eq_append_getElem hi]; simp only [List.all_append, List.all_cons, List.all_nil, Bool.and_true]
theorem spec_l10AnswerOk_c {w0 : World} {c v : Int} {l : List Int} {K : J2} (hl : (l.length : Int) < 2 ^ 62) (h : K [.bool (ansB c v l)] []) : cl2 ⟨Try.prog, w0⟩ 119 spec_l10AnswerOk.sg [I c, I v] [tI l] K := by
  refine spec_l10AnswerOk.cl2 ?_
  unfold spec_l10AnswerOk.txt
  simp only [cnt_tI]
  refine spec_l1In_c (prP_not (gE_b (gE_b (gP_orN (fun _ K hk => spec_l1In_c hk) (gE_b (gE_b (gE_b (gP_or (fun _ K hk => prP_gtN (b := 8) hk) (cndP_i (fun hb => ?_) fun hb => ?_)))))))))
  · have : ansB c v l = false := by
      unfold ansB argB
      revert hb
      cases inB c 0 6 <;> cases inB v (-1000000000) 1000000000 <;> simp
      intro h1 h2; omega
    rw [this] at h; exact h
  · have hh : (inB c 0 6 && argB v && decide (l.length ≤ 8)) = true := by
      unfold argB
      revert hb
      cases inB c 0 6 <;> cases inB v (-1000000000) 1000000000 <;> simp
    refine loopP_from (fun i => [iv i, I c, I v]) (fun _ => []) l.length (fun i => (l.take i).all argB = true) rfl rfl rfl (fun R i hi hP hR => ?_)
    refine prP_ltN (cndP_d (fun hlt => ?_) fun hge => ?_)
    · refine ixW_iv hlt (ldc_tI hlt (spec_l1In_c (prP_not (cndP_i (fun hb => ?_) fun hb => ?_))))
      · have : l.all argB = false := by
          rw [List.all_eq_false]; exact ⟨l[i], List.getElem_mem hlt, by unfold argB; simpa using hb⟩
        rw [ansB, hh, this] at h; exact h
      · exact prP_inc (by omega) (hR hlt (by rw [all_take hlt, hP]; unfold argB; simpa using hb))
    · have : i = l.length := by omega
      subst this
      rw [List.take_length] at hP
      rw [ansB, hh, hP] at h; exact h
theorem impl_answerable_c {w0 : World} {c v : Int} {l : List Int} {K : J2} (hl : (l.length : Int) < 2 ^ 62) (h : K [.bool (ansB c v l)] []) : cl2 ⟨Try.prog, w0⟩ 112 impl_answerable.sg [I c, I v] [tI l] K := by
  refine impl_answerable.cl2 ?_
  unfold impl_answerable.txt
  simp only [cnt_tI]
  refine loopP_from (fun i => [iv l.length, iv i, I c, I v]) (fun _ => []) l.length (fun i => (l.take i).all argB = true) rfl rfl rfl (fun R i hi hP hR => ?_)
  refine prP_ltN (cndP_d (fun hlt => ?_) fun hge => ?_)
  · refine ixW_iv hlt (ldc_tI hlt (impl_isArg_c (prP_not (cndP_i (fun hb => ?_) fun hb => ?_))))
    · have : l.all argB = false := by
        rw [List.all_eq_false]; exact ⟨l[i], List.getElem_mem hlt, by simpa using hb⟩
      rw [ansB, this, Bool.and_false] at h; exact h
    · exact prP_inc (by omega) (hR hlt (by rw [all_take hlt, hP]; simpa using hb))
  · have : i = l.length := by omega
    subst this
    rw [List.take_length] at hP
    refine impl_in_c (gE_b (gE_b (gP_and (fun _ K hk => impl_isArg_c hk) (gE_b (gE_b (gE_b (gP_and (fun _ K hk => prP_leN (b := 8) hk) ?_)))))))
    rw [ansB, hP, Bool.and_true] at h; exact h
end Go.Proofs.Ytnhicpkhkaihoaa.P
