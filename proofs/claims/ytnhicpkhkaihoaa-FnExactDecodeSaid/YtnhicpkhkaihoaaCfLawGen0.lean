/- Rows that the laws mark: what lies in them behind a mark, for any element. -/
import Derived.Test.YtnhicpkhkaihoaaCfTxtB
namespace Go.Proofs.Ytnhicpkhkaihoaa.P
open Go Go.Proofs.Ytnhicpkhkaihoaa Go.Proofs.Ytnhicpkhkaihoaa.Eng
set_option linter.unusedVariables false
theorem mkW_i {b n : Nat} {K : Value → Prop} (hn : b * n ≤ 2 ^ 48) (h : K (iv n)) : mkW b (iv n) (iv n) K := ⟨n, rfl, rfl, hn, h⟩
theorem mkW_i' {b n : Nat} {K : Value → Prop} (hn : b * n ≤ 2 ^ 48) (h : K (iv n)) : mkW b (I n) (I n) K := mkW_i hn h
set_option maxHeartbeats 4000000
set_option linter.unusedVariables false
set_option linter.unusedSimpArgs false
attribute [local irreducible] prP gP gE gF cndP ixW ldc ldg ldl stc stg scW mkW apW loopP cl2 joinP pre2
variable {w0 : World}
/-! ### Marked rows -/
section
variable {α : Type} (mk : Int → α → α) (sz : α → Int)
def szL : List α → Int
  | [] => 0
  | x :: l => sz x + szL l
def mkL : Int → List α → List α
  | _, [] => []
  | k, x :: l => mk k x :: mkL (k + sz x) l
variable {mk sz}
theorem szL_app : ∀ a b : List α, szL sz (a ++ b) = szL sz a + szL sz b
  | [], b => by simp [szL]
  | x :: a, b => by simp only [List.cons_append, szL, szL_app a b]; omega
theorem mkL_app : ∀ (a b : List α) (k : Int), mkL mk sz k (a ++ b) = mkL mk sz k a ++ mkL mk sz (k + szL sz a) b
  | [], b, k => by simp [szL, mkL]
  | x :: a, b, k => by simp only [List.cons_append, mkL, szL, mkL_app a b, Int.add_assoc]
theorem mkL_len : ∀ (a : List α) (k : Int), (mkL mk sz k a).length = a.length
  | [], k => rfl
  | x :: a, k => by simp [mkL, mkL_len a]
theorem szL_succ {l : List α} {i : Nat} (hi : i < l.length) : szL sz (l.take (i + 1)) = szL sz (l.take i) + sz l[i] := by
  rw [List.take_succ_eq_append_getElem hi, szL_app]; simp [szL]
theorem szL_pos (h : ∀ x, 0 ≤ sz x) : ∀ l : List α, 0 ≤ szL sz l
  | [] => by simp [szL]
  | x :: l => by have := h x; have := szL_pos h l; simp only [szL]; omega
theorem szL_take (h : ∀ x, 0 ≤ sz x) (l : List α) (i : Nat) : szL sz (l.take i) ≤ szL sz l := by
  conv => rhs; rw [← List.take_append_drop i l, szL_app]
  have := szL_pos h (l.drop i); omega
theorem szL_at (h : ∀ x, 0 ≤ sz x) {l : List α} {i : Nat} (hi : i < l.length) : szL sz (l.take i) + sz l[i] ≤ szL sz l := by
  rw [← szL_succ hi]; exact szL_take h l _
theorem mkL_get {l : List α} {i : Nat} {k : Int} (hi : i < l.length) (hi' : i < (mkL mk sz k l).length) : (mkL mk sz k l)[i] = mk (k + szL sz (l.take i)) l[i] := by
  have h : mkL mk sz k l = mkL mk sz k (l.take i) ++ mkL mk sz (k + szL sz (l.take i)) (l.drop i) := by rw [← mkL_app, List.take_append_drop]
  have h2 : l.drop i = l[i] :: l.drop (i + 1) := List.drop_eq_getElem_cons hi
  have hl : (mkL mk sz k (l.take i)).length = i := by rw [mkL_len, List.length_take]; omega
  simp only [h, h2, mkL]
  rw [List.getElem_append_right (by omega)]
  simp [hl]
def mid (mk : Int → α → α) (sz : α → Int) (k : Int) (l : List α) (i : Nat) : List α := mkL mk sz k (l.take i) ++ l.drop i
theorem mid_0 {k : Int} {l : List α} : mid mk sz k l 0 = l := by simp [mid, mkL]
theorem mid_all {k : Int} {l : List α} : mid mk sz k l l.length = mkL mk sz k l := by simp [mid]
theorem mid_len {k : Int} {l : List α} {i : Nat} (hi : i ≤ l.length) : (mid mk sz k l i).length = l.length := by
  simp only [mid, List.length_append, mkL_len, List.length_take, List.length_drop]; omega
theorem mid_get {k : Int} {l : List α} {i : Nat} (hi : i < l.length) (h : i < (mid mk sz k l i).length) : (mid mk sz k l i)[i] = l[i] := by
  have hl : (mkL mk sz k (l.take i)).length = i := by rw [mkL_len, List.length_take]; omega
  simp only [mid]
  rw [List.getElem_append_right (by omega)]
  simp [hl]
theorem mid_set {k : Int} {l : List α} {i : Nat} (hi : i < l.length) : (mid mk sz k l i).set i (mk (k + szL sz (l.take i)) l[i]) = mid mk sz k l (i + 1) := by
  have hl : (mkL mk sz k (l.take i)).length = i := by rw [mkL_len, List.length_take]; omega
  simp only [mid]
  rw [List.set_append_right _ _ (by omega), hl, Nat.sub_self, List.drop_eq_getElem_cons hi, List.set_cons_zero, List.take_succ_eq_append_getElem hi, mkL_app]
  simp [mkL]
end
theorem laws_eqIntS_c {l : List Int} {K : J2} (hl : (l.length : Int) < 2 ^ 62) (h : K [.bool true] []) : cl2 ⟨Try.prog, w0⟩ 17 laws_eqIntS.sg [] [tI l, tI l] K := laws_eqIntS.cl2 (laws_eqIntS_t hl (by rw [decide_eq_true rfl]; exact h))
theorem laws_markIntS_c {n : Int} {l : List Int} {K : J2} (hl : (l.length : Int) < 2 ^ 62) (hn : 0 ≤ n ∧ n < 2 ^ 62) (h : K [I (n + l.length)] [tI (marks n l.length)]) : cl2 ⟨Try.prog, w0⟩ 20 laws_markIntS.sg [I n] [tI l] K := laws_markIntS.cl2 (laws_markIntS_t hl hn h)
theorem marks_len (z : Int) (k : Nat) : (marks z k).length = k := by simp [marks]
theorem laws_heldIntS_c {n : Int} {m : Nat} {K : J2} (hm : (m : Int) < 2 ^ 61) (hn : 0 ≤ n ∧ n < 2 ^ 61) (h : K [I (n + m)] []) : cl2 ⟨Try.prog, w0⟩ 21 laws_heldIntS.sg [I n] [tI (marks n m)] K := by
  refine laws_heldIntS.cl2 ?_
  unfold laws_heldIntS.txt
  rw [cnt_tI, marks_len]
  refine loopP_from (fun i => [I (n + i), iv i]) (fun _ => []) m (fun _ => True) (by simp [iv_eq]) rfl trivial (fun R i hi hP hR => ?_)
  refine prP_ltN (cndP_d (fun hlt => ?_) fun hge => ?_)
  · have hl : i < (marks n m).length := by rw [marks_len]; exact hlt
    have hg : (marks n m)[i] = n + i := by simp [marks]
    refine ixW_iv hlt (ldc_tI hl ?_)
    rw [hg]
    refine prP_ned (cndP_no (fun h => h rfl) (prP_add (b := 1) ⟨by omega, by omega⟩ (prP_inc (by omega) ?_)))
    have := hR hlt trivial
    simpa [Int.add_assoc] using this
  · have : i = m := by omega
    subst this; exact h
end Go.Proofs.Ytnhicpkhkaihoaa.P
