/- Rows that the laws mark: what lies in them behind a mark, for any element. -/
import Derived.Test.YtnhicpkhkaihoaaCeTxtB
namespace Go.Proofs.Ytnhicpkhkaihoaa.P
open Go Go.Proofs.Ytnhicpkhkaihoaa Go.Proofs.Ytnhicpkhkaihoaa.Eng
set_option linter.unusedVariables false
theorem mkW_i {b n : Nat} {K : Value → Prop} (hn : b * n ≤ 2 ^ 48) (h : K (iv n)) : mkW b (iv n) (iv n) K := ⟨n, rfl, rfl, hn, h⟩
theorem mkW_i' {b n : Nat} {K : Value → Prop} (hn : b * n ≤ 2 ^ 48) (h : K (iv n)) : mkW b (I n) (I n) K := mkW_i hn h
set_option maxHeartbeats 4000000
set_option linter.unusedVariables false
set_option linter.unusedSimpArgs false
attribute [local irreducible] prP gP gE gF cndP ixW ldc ldg ldl stc stg scW mkW apW loopP cl2 joinP pre2
variable {w0 : World}
/-! ### Marked rows -/
section
variable {α : Type} (mk : Int → α → α) (sz : α → Int)
def szL : List α → Int
  | [] => 0
  | x :: l => sz x + szL l
variable {mk sz}
theorem szL_pos (h : ∀ x, 0 ≤ sz x) : ∀ l : List α, 0 ≤ szL sz l
  | [] => by simp [szL]
  | x :: l => by have := h x; have := szL_pos h l; simp only [szL]; omega
end
theorem laws_szStringS_c {n : Int} {l : List ByteArray} {K : J2} (hl : (l.length : Int) < 2 ^ 63) (hs : ∀ s ∈ l, (s.size : Int) < 2 ^ 63) (hn : 0 ≤ n ∧ n ≤ 2 ^ 62) (h0 : K [I (-1)] []) (h1 : ∀ r, 0 ≤ r → r ≤ n → (l.length : Int) ≤ n → (∀ s ∈ l, (s.size : Int) ≤ n) → K [I r] []) : cl2 ⟨Try.prog, w0⟩ 78 laws_szStringS.sg [I n] [tS l] K := laws_szStringS.cl2 (laws_szStringS_t hl hs hn h0 h1)
theorem laws_toStringS_c {l : List ByteArray} {K : J2} (hl : (l.length : Int) < 2 ^ 40) (h : K [] [tS l]) : cl2 ⟨Try.prog, w0⟩ 83 laws_toStringS.sg [] [tS l] K := laws_toStringS.cl2 (laws_toStringS_t hl h)
theorem laws_eqIntS_c {l : List Int} {K : J2} (hl : (l.length : Int) < 2 ^ 62) (h : K [.bool true] []) : cl2 ⟨Try.prog, w0⟩ 17 laws_eqIntS.sg [] [tI l, tI l] K := laws_eqIntS.cl2 (laws_eqIntS_t hl (by rw [decide_eq_true rfl]; exact h))
theorem laws_eqStringS_c {l : List ByteArray} {K : J2} (hl : (l.length : Int) < 2 ^ 62) (h : K [.bool true] []) : cl2 ⟨Try.prog, w0⟩ 87 laws_eqStringS.sg [] [tS l, tS l] K := laws_eqStringS.cl2 (laws_eqStringS_t hl (by rw [decide_eq_true rfl]; exact h))
theorem laws_markIntS_c {n : Int} {l : List Int} {K : J2} (hl : (l.length : Int) < 2 ^ 62) (hn : 0 ≤ n ∧ n < 2 ^ 62) (h : K [I (n + l.length)] [tI (marks n l.length)]) : cl2 ⟨Try.prog, w0⟩ 20 laws_markIntS.sg [I n] [tI l] K := laws_markIntS.cl2 (laws_markIntS_t hl hn h)
theorem laws_markStringS_c {n : Int} {l : List ByteArray} {K : J2} (hl : (l.length : Int) < 2 ^ 62) (hn : 0 ≤ n ∧ n < 2 ^ 62) (h : K [I (n + l.length)] [tS (marksS n l.length)]) : cl2 ⟨Try.prog, w0⟩ 90 laws_markStringS.sg [I n] [tS l] K := laws_markStringS.cl2 (laws_markStringS_t hl hn h)
theorem marks_len (z : Int) (k : Nat) : (marks z k).length = k := by simp [marks]
theorem marksS_len (z : Int) (k : Nat) : (marksS z k).length = k := by simp [marksS]
theorem laws_heldIntS_c {n : Int} {m : Nat} {K : J2} (hm : (m : Int) < 2 ^ 61) (hn : 0 ≤ n ∧ n < 2 ^ 61) (h : K [I (n + m)] []) : cl2 ⟨Try.prog, w0⟩ 21 laws_heldIntS.sg [I n] [tI (marks n m)] K := by
  refine laws_heldIntS.cl2 ?_
  unfold laws_heldIntS.txt
  rw [cnt_tI, marks_len]
  refine loopP_from (fun i => [I (n + i), iv i]) (fun _ => []) m (fun _ => True) (by simp [iv_eq]) rfl trivial (fun R i hi hP hR => ?_)
  refine prP_ltN (cndP_d (fun hlt => ?_) fun hge => ?_)
  · have hl : i < (marks n m).length := by rw [marks_len]; exact hlt
    have hg : (marks n m)[i] = n + i := by simp [marks]
    refine ixW_iv hlt (ldc_tI hl ?_)
    rw [hg]
    refine prP_ned (cndP_no (fun h => h rfl) (prP_add (b := 1) ⟨by omega, by omega⟩ (prP_inc (by omega) ?_)))
    have := hR hlt trivial
    simpa [Int.add_assoc] using this
  · have : i = m := by omega
    subst this; exact h
theorem laws_heldStringS_c {n : Int} {m : Nat} {K : J2} (hm : (m : Int) < 2 ^ 61) (hn : 0 ≤ n ∧ n < 2 ^ 61) (h : K [I (n + m)] []) : cl2 ⟨Try.prog, w0⟩ 104 laws_heldStringS.sg [I n] [tS (marksS n m)] K := by
  refine laws_heldStringS.cl2 (laws_heldStringS_t (by rw [marksS_len]; omega) ⟨hn.1, by omega⟩ ?_)
  rw [marksS_len, if_pos rfl]; exact h
end Go.Proofs.Ytnhicpkhkaihoaa.P
