/- ShowEvent's words: signed numbers, texts, pens. -/
import Derived.Test.YtnhicpkhkaihoaaCfTxtD
namespace Go.Proofs.Ytnhicpkhkaihoaa.P
open Go Go.Proofs.Ytnhicpkhkaihoaa Go.Proofs.Ytnhicpkhkaihoaa.Eng
set_option linter.unusedVariables false
def zg (n : Int) : Int := if inB n (-100000000000000) 100000000000000 then (if n < 0 then -2 * n - 1 else 2 * n) else -1
theorem inB_iff {n lo hi : Int} : inB n lo hi = true ↔ lo ≤ n ∧ n ≤ hi := by simp [inB]
theorem zg_fits (n : Int) : F64 (zg n) := by
  unfold zg; split
  · rename_i h; rw [inB_iff] at h
    split <;> constructor <;> omega
  · constructor <;> omega
theorem spec_Zig_c {w0 : World} {n : Int} {K : J2} (h : K [I (zg n)] []) : cl2 ⟨Try.prog, w0⟩ 179 spec_Zig.sg [I n] [] K := by
  refine spec_Zig.cl2 (spec_l1In_c (prP_not (cndP_i (fun hb => ?_) fun hb => ?_)))
  · have hb : inB n (-100000000000000) 100000000000000 = false := by simpa using hb
    rw [zg, hb] at h; exact h
  · have hb : inB n (-100000000000000) 100000000000000 = true := by simpa using hb
    rw [zg, if_pos hb] at h
    rw [inB_iff] at hb
    refine prP_lss (cndP_d (fun hl => ?_) fun hl => ?_)
    · rw [if_pos hl] at h
      exact prP_mul (a := -2) ⟨by omega, by omega⟩ (prP_sub (b := 1) ⟨by omega, by omega⟩ h)
    · rw [if_neg hl] at h
      exact prP_mul (a := 2) ⟨by omega, by omega⟩ h
theorem impl_Zig_c {w0 : World} {n : Int} {K : J2} (h : K [I (zg n)] []) : cl2 ⟨Try.prog, w0⟩ 177 impl_Zig.sg [I n] [] K := by
  refine impl_Zig.cl2 (impl_in_c (prP_not (cndP_i (fun hb => ?_) fun hb => ?_)))
  · have hb : inB n (-100000000000000) 100000000000000 = false := by simpa using hb
    rw [zg, hb] at h; exact h
  · have hb : inB n (-100000000000000) 100000000000000 = true := by simpa using hb
    rw [zg, if_pos hb] at h
    rw [inB_iff] at hb
    refine prP_lss (cndP_d (fun hl => ?_) fun hl => ?_)
    · rw [if_pos hl] at h
      exact prP_mul (a := -2) ⟨by omega, by omega⟩ (prP_sub (b := 1) ⟨by omega, by omega⟩ h)
    · rw [if_neg hl] at h
      exact prP_mul (a := 2) ⟨by omega, by omega⟩ h
def SI (n : Int) : ByteArray := V (zg n)
theorem spec_ShowInt_c {w0 : World} {n : Int} {K : J2} (h : K [.string (SI n)] []) : cl2 ⟨Try.prog, w0⟩ 122 spec_ShowInt.sg [I n] [] K := by
  refine spec_ShowInt.cl2 (spec_Zig_c (prP_lss (cndP_d (fun hl => ?_) fun hl => spec_Var_c (zg_fits n) h)))
  have : SI n = ⟨#[]⟩ := by
    have hb : inB (zg n) 0 562949953421311 = false := by
      cases hx : inB (zg n) 0 562949953421311
      · rfl
      · rw [inB_iff] at hx; omega
    rw [SI, V, hb]; rfl
  rw [this] at h; exact h
theorem impl_ShowInt_c {w0 : World} {n : Int} {K : J2} (h : K [.string (SI n)] []) : cl2 ⟨Try.prog, w0⟩ 114 impl_ShowInt.sg [I n] [] K :=
  impl_ShowInt.cl2 (impl_Zig_c (impl_Var_c (zg_fits n) h))
def ST (s : ByteArray) : ByteArray := if (s.size : Int) > 8 then ⟨#[]⟩ else V s.size ++ s
theorem spec_ShowText_c {w0 : World} {s : ByteArray} {K : J2} (h : K [.string (ST s)] []) : cl2 ⟨Try.prog, w0⟩ 178 spec_ShowText.sg [.string s] [] K := by
  refine spec_ShowText.cl2 (prP_lnS (prP_gtr (cndP_d (fun hl => ?_) fun hl => ?_)))
  · rw [ST, if_pos hl] at h; exact h
  · rw [ST, if_neg hl] at h
    have := V_size s.size
    exact prP_lnS (spec_Var_c ⟨by omega, by omega⟩ (prP_catS (by omega) h))
theorem impl_ShowText_c {w0 : World} {s : ByteArray} {K : J2} (h : K [.string (ST s)] []) : cl2 ⟨Try.prog, w0⟩ 117 impl_ShowText.sg [.string s] [] K := by
  refine impl_ShowText.cl2 (prP_lnS (prP_gtr (cndP_d (fun hl => ?_) fun hl => ?_)))
  · rw [ST, if_pos hl] at h; exact h
  · rw [ST, if_neg hl] at h
    have := V_size s.size
    exact prP_lnS (impl_Var_c ⟨by omega, by omega⟩ (prP_catS (by omega) h))
theorem ST_size (s : ByteArray) : (ST s).size ≤ 15 := by
  unfold ST; split
  · exact Nat.zero_le _
  · have := V_size s.size
    rw [ByteArray.size_append]; omega
/-! ### The texts of a pen -/
theorem cndP_eqS {a b : ByteArray} {p q : Prop} (h1 : a = b → p) (h2 : a ≠ b → q) : cndP (.bool (a.toList == b.toList)) p q :=
  cndP_i (fun h => h1 (BA_ext (by simpa using h))) (fun h => h2 (by rintro rfl; simp at h))
instance : LawfulBEq ByteArray where
  eq_of_beq {a b} h := by
    cases a; cases b
    have h : _ == _ := h
    first | exact congrArg _ (eq_of_beq h) | (simp [BEq.beq, instBEqByteArray.beq] at h; simpa using h) | (simp_all)
  rfl {a} := by
    cases a
    first | exact beq_self_eq_true (α := Array UInt8) _ | (show ByteArray.beq _ _ = true; unfold ByteArray.beq; simp) | (simp [BEq.beq, ByteArray.beq])
/-- Where a text stands. -/
def at_ (l : List ByteArray) (s : ByteArray) : Int := if s ∈ l then (l.idxOf s : Int) else -1
theorem notin_take {l : List ByteArray} {s : ByteArray} {i : Nat} (hi : i < l.length) (h1 : s ∉ l.take i) (h2 : l[i] ≠ s) : s ∉ l.take (i + 1) := by
  rw [List.take_succ_eq_append_getElem hi]
  simp only [List.mem_append, List.mem_singleton, not_or]
  exact ⟨h1, fun h => h2 h.symm⟩
theorem at_here {l : List ByteArray} {s : ByteArray} {i : Nat} (hi : i < l.length) (h1 : s ∉ l.take i) (h2 : l[i] = s) : at_ l s = i := by
  have hm : s ∈ l := h2 ▸ List.getElem_mem hi
  rw [at_, if_pos hm]
  have e : l = l.take i ++ l[i] :: l.drop (i + 1) := by rw [← List.drop_eq_getElem_cons hi, List.take_append_drop]
  have hx : l.idxOf s = i := by
    rw [e, List.idxOf_append, if_neg h1, h2, List.idxOf_cons_self]
    simp; omega
  rw [hx]
theorem impl_textAt_c {w0 : World} {s : ByteArray} {l : List ByteArray} {K : J2} (hl : (l.length : Int) < 2 ^ 62) (h : K [I (at_ l s)] []) : cl2 ⟨Try.prog, w0⟩ 115 impl_textAt.sg [.string s] [tS l] K := by
  refine impl_textAt.cl2 ?_
  unfold impl_textAt.txt
  simp only [cnt_tS]
  refine loopP_from (fun i => [.string s, iv l.length, iv i]) (fun _ => []) l.length (fun i => s ∉ l.take i) rfl rfl (by simp) (fun R i hi hP hR => ?_)
  refine prP_ltN (cndP_d (fun hlt => ?_) fun hge => ?_)
  · refine ixW_iv hlt (ldc_tS hlt (prP_eqlS (cndP_eqS (fun he => ?_) fun hne => ?_)))
    · rw [at_here hlt hP he] at h; exact h
    · exact prP_inc (by omega) (hR hlt (notin_take hlt hP hne))
  · have : i = l.length := by omega
    subst this
    rw [List.take_length] at hP
    rw [at_, if_neg hP] at h; exact h
theorem impl_hasText_c {w0 : World} {s : ByteArray} {l : List ByteArray} {K : J2} (hl : (l.length : Int) < 2 ^ 62) (h : K [.bool (decide (s ∈ l))] []) : cl2 ⟨Try.prog, w0⟩ 176 impl_hasText.sg [.string s] [tS l] K := by
  refine impl_hasText.cl2 (impl_textAt_c hl (prP_geq ?_))
  have : decide (at_ l s ≥ 0) = decide (s ∈ l) := by
    by_cases hm : s ∈ l <;> simp [at_, hm]
  rw [this]; exact h
theorem impl_copyPen_c {w0 : World} {n : Value} {l : List ByteArray} {K : J2} (hl : l.length ≤ 2 ^ 40) (h : K [n] [tS l]) : cl2 ⟨Try.prog, w0⟩ 103 impl_copyPen.sg [n] [tS l] K := by
  refine impl_copyPen.cl2 (impl_copyTexts.cl2 (apW_i (flat_tS l) (by rw [cnt_tS]; omega) ?_))
  exact h
end Go.Proofs.Ytnhicpkhkaihoaa.P
