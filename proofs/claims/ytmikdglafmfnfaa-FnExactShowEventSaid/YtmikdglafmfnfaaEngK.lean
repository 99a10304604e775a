/- The engine's truth, eleventh part: a region whose order is drawn. -/
import Derived.Test.YtmikdglafmfnfaaEngJ
namespace Go.Proofs.Ytmikdglafmfnfaa.Eng
open Go Go.RowKit
set_option linter.unusedVariables false
set_option linter.unusedSimpArgs false
/-! ### The order -/
theorem fold_mask {L : List Nat} {i : Nat} : ∀ (l : List Edge) (s : Nat), (l.foldl (fun s e => match Region.binds .any e with
  | true => s ||| 2 ^ e.on ||| L.getD e.on 0
  | false => s) s).testBit i = true → s.testBit i = true ∨ ∃ e ∈ l, Region.binds .any e = true ∧ (e.on = i ∨ (L.getD e.on 0).testBit i = true)
  | [], s, h => .inl h
  | e :: l, s, h => by
    simp only [List.foldl_cons] at h
    rcases fold_mask l _ h with h | ⟨e', he, h1, h2⟩
    · cases hb : Region.binds .any e with
      | false => rw [hb] at h; exact .inl h
      | true =>
        rw [hb] at h
        simp only [Nat.testBit_or, Bool.or_eq_true] at h
        rcases h with (h | h) | h
        · exact .inl h
        · rw [Nat.testBit_two_pow] at h
          exact .inr ⟨e, by simp, hb, .inl (by simpa using h)⟩
        · exact .inr ⟨e, by simp, hb, .inr h⟩
    · exact .inr ⟨e', List.mem_cons_of_mem _ he, h1, h2⟩
structure Ord (L : List Nat) (ops : Array Oper) : Prop where
  mask : ∀ i o, ops[i]? = some o → ∀ k, (L.getD i 0).testBit k = true → ∃ e ∈ o.after, Region.binds .any e = true ∧ (e.on = k ∨ (L.getD e.on 0).testBit k = true)
  down : ∀ i o, ops[i]? = some o → ∀ e ∈ o.after, Region.binds .any e = true → e.on < i
  pair : ∀ i j x y, i < j → ops[i]? = some x → ops[j]? = some y → unord L i j = true → Oper.apart ops x y = true ∧ ¬ (isWriter x = true ∧ isWriter y = true)
theorem late_spec {L : List Nat} {ops : Array Oper} {i : Nat} {x : Oper} : ∀ (l : List Oper) (j : Nat), lateOk L ops i x j l = true → ∀ (k : Nat) y, l[k]? = some y → pairOk L ops i (j + k) x y = true
  | [], _, _, k, y, h => by simp at h
  | z :: r, j, h, k, y, hy => by
    simp only [lateOk, Bool.and_eq_true] at h
    cases k with
    | zero => simp at hy; subst hy; exact h.1
    | succ k => have := late_spec r (j + 1) h.2 k y (by simpa using hy); rwa [show j + (k + 1) = j + 1 + k by omega]
theorem ord_list {L : List Nat} {ops : Array Oper} : ∀ (l : List Oper) (i : Nat), drawOk L ops i l = true → ∀ (k : Nat) o, l[k]? = some o →
    L.getD (i + k) 0 = maskOf L o ∧ (∀ e ∈ o.after, Region.binds .any e = true → e.on < i + k) ∧ ∀ (j : Nat) y, k < j → l[j]? = some y → pairOk L ops (i + k) (i + j) o y = true
  | [], _, _, k, o, h => by simp at h
  | z :: r, i, h, k, o, ho => by
    simp only [drawOk, Bool.and_eq_true, beq_iff_eq] at h
    obtain ⟨⟨⟨h1, h2⟩, h3⟩, h4⟩ := h
    cases k with
    | zero =>
      simp at ho; subst ho
      refine ⟨h1, fun e he hb => ?_, fun j y hj hy => ?_⟩
      · have := Array.all_eq_true_iff_forall_mem.1 h2 e he
        simp only [Bool.or_eq_true, decide_eq_true_eq, hb, Bool.not_true, Bool.false_eq_true, or_false] at this
        exact this
      · obtain ⟨j', rfl⟩ : ∃ j', j = j' + 1 := ⟨j - 1, by omega⟩
        have := late_spec r (i + 1) h3 j' y (by simpa using hy)
        rwa [show i + (j' + 1) = i + 1 + j' by omega]
    | succ k =>
      obtain ⟨q1, q2, q3⟩ := ord_list r (i + 1) h4 k o (by simpa using ho)
      rw [show i + (k + 1) = i + 1 + k by omega]
      refine ⟨q1, q2, fun j y hj hy => ?_⟩
      obtain ⟨j', rfl⟩ : ∃ j', j = j' + 1 := ⟨j - 1, by omega⟩
      rw [show i + (j' + 1) = i + 1 + j' by omega]
      exact q3 j' y (by omega) (by simpa using hy)
theorem ord_of {L : List Nat} {ops : Array Oper} (h : drawOk L ops 0 ops.toList = true) : Ord L ops := by
  have hl := ord_list ops.toList 0 h
  refine ⟨fun i o ho k hk => ?_, fun i o ho e he hb => ?_, fun i j x y hij hx hy hu => ?_⟩
  · obtain ⟨h1, _, _⟩ := hl i o (by simpa using ho)
    rw [Nat.zero_add] at h1
    rw [h1, maskOf] at hk
    rcases fold_mask o.after.toList 0 hk with h | ⟨e, he, h2⟩
    · simp at h
    · exact ⟨e, by simpa using he, h2⟩
  · have := (hl i o (by simpa using ho)).2.1 e he hb
    omega
  · have := (hl i x (by simpa using hx)).2.2 j y hij (by simpa using hy)
    simp only [Nat.zero_add, pairOk, hu, Bool.not_true, Bool.false_or, Bool.and_eq_true, Bool.not_eq_true', Bool.and_eq_false_iff] at this
    refine ⟨this.1, fun ⟨a, b⟩ => ?_⟩
    rcases this.2 with h | h
    · rw [a] at h; cases h
    · rw [b] at h; cases h
theorem unord_comm {L : List Nat} {i j : Nat} : unord L i j = unord L j i := by simp [unord, Bool.and_comm]
section
variable {L : List Nat} {ops : Array Oper} {ls : Array Bool}
def On (ls : Array Bool) (i : Nat) : Prop := ls.getD i false = true
/-- What is listed has all before it listed. -/
def Shut (ops : Array Oper) (ls : Array Bool) : Prop := ∀ j o, On ls j → ops[j]? = some o → ∀ e ∈ o.after, Region.binds .any e = true → On ls e.on
theorem bef_lt (hO : Ord L ops) : ∀ (j i : Nat) o, ops[j]? = some o → (L.getD j 0).testBit i = true → i < j := by
  intro j
  induction j using Nat.strongRecOn with
  | _ j ih =>
    intro i o ho hb
    obtain ⟨e, he, h1, h2⟩ := hO.mask j o ho i hb
    have hlt := hO.down j o ho e he h1
    rcases h2 with h2 | h2
    · omega
    · have hjs := (Array.getElem?_eq_some_iff.1 ho).1
      have := ih e.on hlt i ops[e.on] (by rw [Array.getElem?_eq_getElem (by omega)]) h2
      omega
theorem bef_on (hO : Ord L ops) (hs : Shut ops ls) : ∀ (j i : Nat) o, ops[j]? = some o → (∀ e ∈ o.after, Region.binds .any e = true → On ls e.on) → (L.getD j 0).testBit i = true → On ls i := by
  intro j
  induction j using Nat.strongRecOn with
  | _ j ih =>
    intro i o ho hall hb
    obtain ⟨e, he, h1, h2⟩ := hO.mask j o ho i hb
    have hon := hall e he h1
    rcases h2 with h2 | h2
    · rw [← h2]; exact hon
    · have hlt := hO.down j o ho e he h1
      have hjs := (Array.getElem?_eq_some_iff.1 ho).1
      have hge : ops[e.on]? = some ops[e.on] := by rw [Array.getElem?_eq_getElem (by omega)]
      exact ih e.on hlt i ops[e.on] hge (fun e' he' hb' => hs e.on _ hon hge e' he' hb') h2
/-- j comes next: what is listed and later than j, or not listed and earlier, is in no order with j. -/
theorem free_of (hO : Ord L ops) (hs : Shut ops ls) {j : Nat} {o : Oper} (ho : ops[j]? = some o) (hall : ∀ e ∈ o.after, Region.binds .any e = true → On ls e.on) (hj : ¬ On ls j) {k : Nat} {o' : Oper} (ho' : ops[k]? = some o') (hk : (On ls k ∧ j < k) ∨ (¬ On ls k ∧ k < j)) :
    unord L k j = true := by
  unfold unord
  simp only [Bool.and_eq_true, Bool.not_eq_true']
  constructor
  · cases hb : (L.getD k 0).testBit j with
    | false => rfl
    | true =>
      have hlt := bef_lt hO k j o' ho' hb
      rcases hk with ⟨h1, h2⟩ | ⟨h1, h2⟩
      · exact absurd (bef_on hO hs k j o' ho' (fun e he hbe => hs k o' h1 ho' e he hbe) hb) hj
      · omega
  · cases hb : (L.getD j 0).testBit k with
    | false => rfl
    | true =>
      have hlt := bef_lt hO j k o ho hb
      rcases hk with ⟨h1, h2⟩ | ⟨h1, h2⟩
      · omega
      · exact absurd (bef_on hO hs j k o ho hall hb) h1
theorem on_set {i j : Nat} (hi : i < ls.size) : On (ls.setIfInBounds i true) j ↔ j = i ∨ On ls j := by
  unfold On
  by_cases h : i = j
  · subst h; simp [hi]
  · have : ¬ j = i := fun hh => h hh.symm
    simp [this, Array.getElem?_setIfInBounds_ne h]
end
/-! ### How many are left -/
def left (ls : Array Bool) : Nat → Nat
  | 0 => 0
  | k + 1 => left ls k + (if ls.getD k true = true then 0 else 1)
theorem left_set {ls : Array Bool} {j : Nat} (hj : ls.getD j true = false) : ∀ k, left (ls.setIfInBounds j true) k + (if j < k then 1 else 0) = left ls k
  | 0 => by simp [left]
  | k + 1 => by
    have ih := left_set hj k
    have hlt : j < ls.size := by
      rcases Nat.lt_or_ge j ls.size with h | h
      · exact h
      · simp [Array.getElem?_eq_none h] at hj
    simp only [left]
    by_cases hk : j = k
    · subst hk
      have h1 : (ls.setIfInBounds j true).getD j true = true := by simp [hlt]
      simp only [Nat.lt_irrefl, if_false, Nat.add_zero] at ih
      rw [h1, hj, ih]
      simp
    · have h1 : (ls.setIfInBounds j true).getD k true = ls.getD k true := by simp [Array.getElem?_setIfInBounds_ne hk]
      rw [h1]
      by_cases h2 : j < k
      · have h3 : j < k + 1 := by omega
        simp only [h2, h3, if_true] at ih ⊢
        omega
      · have h3 : ¬ j < k + 1 := by omega
        simp only [h2, h3, if_false] at ih ⊢
        omega
theorem left_zero {ls : Array Bool} : ∀ k, left ls k = 0 → ∀ i, i < k → ls.getD i true = true
  | 0, _, i, hi => by omega
  | k + 1, h, i, hi => by
    simp only [left] at h
    by_cases hk : i = k
    · subst hk
      by_cases hg : ls.getD i true = true
      · exact hg
      · rw [if_neg hg] at h; omega
    · exact left_zero k (by omega) i (by omega)
theorem left_pos {ls : Array Bool} {j : Nat} (hj : ls.getD j true = false) (k : Nat) (hk : j < k) : 0 < left ls k := by
  have := left_set hj k
  rw [if_pos hk] at this; omega
end Go.Proofs.Ytmikdglafmfnfaa.Eng
