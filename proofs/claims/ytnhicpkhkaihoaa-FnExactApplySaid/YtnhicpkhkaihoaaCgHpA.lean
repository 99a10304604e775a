/- A part of the proof. -/
import Derived.Test.YtnhicpkhkaihoaaCgLawHp
/- Heaps: ids, slots, what is held. -/
namespace Go.Proofs.Ytnhicpkhkaihoaa.P
open Go Go.Proofs.Ytnhicpkhkaihoaa Go.Proofs.Ytnhicpkhkaihoaa.Eng
set_option maxHeartbeats 4000000
set_option linter.unusedVariables false
set_option linter.unusedSimpArgs false
attribute [local irreducible] prP gP gE gF cndP ixW ldc ldg ldl stc stg scW mkW apW loopP cl2 joinP pre2 selW
variable {w0 : World}
/-! ### Models -/
def pick {α : Type} (f : Nat → List α) : Nat → List α
  | 0 => []
  | n + 1 => pick f n ++ f n
theorem pick_len {α : Type} {f : Nat → List α} (h : ∀ i, (f i).length ≤ 1) : ∀ n, (pick f n).length ≤ n
  | 0 => Nat.le_refl _
  | n + 1 => by have := pick_len h n; have := h n; simp only [pick, List.length_append]; omega
def idOf (s g : Int) : Int := if (0 ≤ s ∧ s ≤ 7) ∧ 1 ≤ g ∧ g ≤ 999 then s + 8 * g else -1
def slotOf (l : List HObj) (id : Int) : Int := if id < 8 ∨ l.length ≠ 8 then -1 else if (ob l (id % 8).toNat).live = true ∧ (ob l (id % 8).toNat).gen = id / 8 then id % 8 else -1
/-! ### The code -/
theorem impl_in_d {n lo hi : Int} {K : J2} (h : K [.bool (decide (lo ≤ n ∧ n ≤ hi))] []) : cl2 ⟨Try.prog, w0⟩ 157 impl_in.sg [I n, I lo, I hi] [] K := by
  refine impl_in.cl2 ?_
  unfold impl_in.txt
  repeat' (first | refine gE_x ?_ | refine pk_y (by first | with_reducible assumption | omega) rfl ?_ | refine pk_n (by first | with_reducible assumption | omega) rfl ?_ | refine prP_leq ?_ | refine gP_dt (fun _ => ?_) (fun _ => ?_))
  · have e : decide (lo ≤ n ∧ n ≤ hi) = decide (n ≤ hi) := by rw [decide_eq_decide]; omega
    rw [e] at h; exact h
  · have e : decide (lo ≤ n ∧ n ≤ hi) = false := decide_eq_false (by omega)
    rw [e] at h; exact h
theorem spec_l1In_d {n lo hi : Int} {K : J2} (h : K [.bool (decide (lo ≤ n ∧ n ≤ hi))] []) : cl2 ⟨Try.prog, w0⟩ 154 spec_l1In.sg [I n, I lo, I hi] [] K := by
  refine spec_l1In.cl2 ?_
  unfold spec_l1In.txt
  repeat' (first | refine gE_x ?_ | refine pk_y (by first | with_reducible assumption | omega) rfl ?_ | refine pk_n (by first | with_reducible assumption | omega) rfl ?_ | refine prP_leq ?_ | refine gP_dt (fun _ => ?_) (fun _ => ?_))
  · have e : decide (lo ≤ n ∧ n ≤ hi) = decide (n ≤ hi) := by rw [decide_eq_decide]; omega
    rw [e] at h; exact h
  · have e : decide (lo ≤ n ∧ n ≤ hi) = false := decide_eq_false (by omega)
    rw [e] at h; exact h
theorem impl_IdOf_c {s g : Int} {K : J2} (h : K [I (idOf s g)] []) : cl2 ⟨Try.prog, w0⟩ 84 impl_IdOf.sg [I s, I g] [] K := by
  refine impl_IdOf.cl2 ?_
  unfold impl_IdOf.txt
  repeat' (first | refine impl_in_d ?_ | refine prP_mul ⟨by omega, by omega⟩ ?_ | refine gE_x ?_ | refine gP_yf (by first | with_reducible assumption | omega) ?_ | refine gP_nf (by first | with_reducible assumption | omega) ?_ | refine pk_y (by first | with_reducible assumption | omega) rfl ?_ | refine pk_n (by first | with_reducible assumption | omega) rfl ?_ | refine cndP_T ?_ | refine prP_notd ?_ | refine prP_add ⟨by omega, by omega⟩ ?_ | refine cndP_d (fun _ => ?_) (fun _ => ?_) | refine gP_df (fun _ => ?_) (fun _ => ?_))
  · rw [idOf, if_neg (by omega)] at h; exact h
  · rw [idOf, if_pos (by omega)] at h; exact h
  · rw [idOf, if_neg (by omega)] at h; exact h
theorem spec_IdOf_c {s g : Int} {K : J2} (h : K [I (idOf s g)] []) : cl2 ⟨Try.prog, w0⟩ 79 spec_IdOf.sg [I s, I g] [] K := by
  refine spec_IdOf.cl2 ?_
  unfold spec_IdOf.txt
  repeat' (first | refine spec_l1In_d ?_ | refine prP_mul ⟨by omega, by omega⟩ ?_ | refine gE_x ?_ | refine gP_yf (by first | with_reducible assumption | omega) ?_ | refine gP_nf (by first | with_reducible assumption | omega) ?_ | refine pk_y (by first | with_reducible assumption | omega) rfl ?_ | refine pk_n (by first | with_reducible assumption | omega) rfl ?_ | refine cndP_T ?_ | refine prP_notd ?_ | refine prP_add ⟨by omega, by omega⟩ ?_ | refine cndP_d (fun _ => ?_) (fun _ => ?_) | refine gP_df (fun _ => ?_) (fun _ => ?_))
  · rw [idOf, if_neg (by omega)] at h; exact h
  · rw [idOf, if_pos (by omega)] at h; exact h
  · rw [idOf, if_neg (by omega)] at h; exact h
theorem slotOf_no {l : List HObj} {id : Int} (h : id < 8 ∨ l.length ≠ 8) : slotOf l id = -1 := if_pos h
theorem slotOf_yes {l : List HObj} {id : Int} (h1 : 8 ≤ id) (h2 : l.length = 8) (hl : (id % 8).toNat < l.length) (h3 : (ob l (id % 8).toNat).live = true) (h4 : (ob l (id % 8).toNat).gen = id / 8) : slotOf l id = id % 8 := by
  rw [slotOf, if_neg (by omega), if_pos ⟨h3, h4⟩]
theorem slotOf_off {l : List HObj} {id : Int} (hl : (id % 8).toNat < l.length) (h : (ob l (id % 8).toNat).live = false ∨ (ob l (id % 8).toNat).gen ≠ id / 8) : slotOf l id = -1 := by
  rw [slotOf]
  split
  · rfl
  · rw [if_neg]
    rintro ⟨h1, h2⟩
    rcases h with h | h
    · rw [h] at h1; cases h1
    · exact h h2
theorem impl_SlotOf_c {a : List HObj} {b c d : List T} {id : Int} {K : J2} (hid : F64 id) (hl : (a.length : Int) < 2 ^ 62) (h : K [I (slotOf a id)] []) : cl2 ⟨Try.prog, w0⟩ 92 impl_SlotOf.sg [I id] [tR tO a, b, c, d] K := by
  obtain ⟨i1, i2⟩ := hid
  refine impl_SlotOf.cl2 ?_
  unfold impl_SlotOf.txt
  simp only [cnt_tO, cnt_tW, cnt_tP, cnt_tA, cnt_tN, cnt_tI, cnt_tS, cnt1_1, cnt1_0, cnt2_1, cnt3_1, cnt5_1, cnt6_1, cnt8_1, nx_0, nx_1, nx_2, nx_3, nx_4, nx_5, nx_6, nxc_0, nxc_1, nxc_2, nxc_3, nxc_4, nxc_5]
  repeat' (first | refine gE_x ?_ | refine gP_on (by with_reducible assumption) ?_ | refine gP_offf (by with_reducible assumption) ?_ | refine pk_t (by with_reducible assumption) rfl ?_ | refine pk_f (by with_reducible assumption) rfl ?_ | refine pk_y (by first | with_reducible assumption | omega) rfl ?_ | refine pk_n (by first | with_reducible assumption | omega) rfl ?_ | refine cndP_T ?_ | refine prP_lss ?_ | refine prP_ned ?_ | refine prP_rem (by omega) (by omega) ?_ | refine prP_quo (by omega) ⟨by omega, by omega⟩ (by omega) ?_ | refine ixW_c (by omega) (by omega) ?_ | refine ldg_ob (by omega) ?_ | refine cndP_d (fun _ => ?_) (fun _ => ?_) | refine gP_df (fun _ => ?_) (fun _ => ?_) | refine gP_cf (fun _ => ?_) (fun _ => ?_) | refine prP_not ?_)
  · rw [slotOf_no (by omega)] at h; exact h
  · rw [slotOf_off (by omega) (.inr (by assumption))] at h; exact h
  · rename_i e1 e2
    rw [slotOf_yes (by omega) (by omega) (by omega) (by simpa using e1) (by simpa using e2)] at h; exact h
  · rename_i e1
    rw [slotOf_off (by omega) (.inl (by simpa using e1))] at h; exact h
  · rw [slotOf_no (by omega)] at h; exact h
theorem spec_SlotOf_c {a : List HObj} {b c d : List T} {id : Int} {K : J2} (hid : F64 id) (hl : (a.length : Int) < 2 ^ 62) (h : K [I (slotOf a id)] []) : cl2 ⟨Try.prog, w0⟩ 91 spec_SlotOf.sg [I id] [tR tO a, b, c, d] K := by
  obtain ⟨i1, i2⟩ := hid
  refine spec_SlotOf.cl2 ?_
  unfold spec_SlotOf.txt
  simp only [cnt_tO, cnt_tW, cnt_tP, cnt_tA, cnt_tN, cnt_tI, cnt_tS, cnt1_1, cnt1_0, cnt2_1, cnt3_1, cnt5_1, cnt6_1, cnt8_1, nx_0, nx_1, nx_2, nx_3, nx_4, nx_5, nx_6, nxc_0, nxc_1, nxc_2, nxc_3, nxc_4, nxc_5]
  repeat' (first | refine gE_x ?_ | refine gP_on (by with_reducible assumption) ?_ | refine gP_offf (by with_reducible assumption) ?_ | refine pk_t (by with_reducible assumption) rfl ?_ | refine pk_f (by with_reducible assumption) rfl ?_ | refine pk_y (by first | with_reducible assumption | omega) rfl ?_ | refine pk_n (by first | with_reducible assumption | omega) rfl ?_ | refine cndP_T ?_ | refine prP_lss ?_ | refine prP_ned ?_ | refine prP_rem (by omega) (by omega) ?_ | refine prP_quo (by omega) ⟨by omega, by omega⟩ (by omega) ?_ | refine ixW_c (by omega) (by omega) ?_ | refine ldc_ob (by omega) (by decide) rfl ?_ | refine ldc_ob0 (by omega) rfl ?_ | refine cndP_d (fun _ => ?_) (fun _ => ?_) | refine gP_df (fun _ => ?_) (fun _ => ?_) | refine gP_cf (fun _ => ?_) (fun _ => ?_) | refine prP_not ?_)
  · rw [slotOf_no (by omega)] at h; exact h
  · rw [slotOf_off (by omega) (.inr (by assumption))] at h; exact h
  · rename_i e1 e2
    rw [slotOf_yes (by omega) (by omega) (by omega) (by simpa using e1) (by simpa using e2)] at h; exact h
  · rename_i e1
    rw [slotOf_off (by omega) (.inl (by simpa using e1))] at h; exact h
  · rw [slotOf_no (by omega)] at h; exact h
end Go.Proofs.Ytnhicpkhkaihoaa.P
