/- Plain laws on numbers, lists and rounds, used by the proofs of the pure statements. No program stands here. -/
import Derived.Test.YtkcekdedkfiddaaWMore
import Derived.OpenShut
import Derived.Lib.Strings
import Derived.WideShapes
namespace Go.Proofs.Ytkcekdedkfiddaa.Kit
open Go.RowKit Go.Proofs.YtkcekdedkfiddaaW.PrintWords Go.Proofs.YtkcekdedkfiddaaW.PrintLast

theorem wrap_in {z : Int} (h0 : -9223372036854775808 ≤ z) (h1 : z ≤ 9223372036854775807) : wrap64 z = z := by unfold wrap64; omega
theorem wrap_low (z : Int) : -9223372036854775808 ≤ wrap64 z := by unfold wrap64; omega
theorem wrap_high (z : Int) : wrap64 z ≤ 9223372036854775807 := by unfold wrap64; omega
theorem wrap_succ {i n : Nat} (h : i < n) (hn : n ≤ 9223372036854775807) : wrap64 ((i : Int) + 1) = ((i + 1 : Nat) : Int) := by unfold wrap64; omega
theorem maxLen_eq : maxLen = 9223372036854775807 := by decide
theorem tl {a b : ByteArray} : a.toList = b.toList ↔ a = b := by
  rw [ByteArray.toList_eq, ByteArray.toList_eq]
  exact ⟨fun h => Go.WideShapes.bytes_inj h, fun h => by rw [h]⟩
theorem rd_nat (xs : List Int) (i : Nat) (h : i < xs.length) : rd xs (i : Int) = xs[i] := by
  simp [rd, List.getD_eq_getElem?_getD, List.getElem?_eq_getElem h]
theorem rdOf_nat {α : Type} (d : α) (xs : List α) (i : Nat) (h : i < xs.length) : rdOf d xs (i : Int) = xs[i] := by
  simp [rdOf, List.getD_eq_getElem?_getD, List.getElem?_eq_getElem h]
theorem getD_nat {α : Type} (d : α) (xs : List α) (i : Nat) (h : i < xs.length) : xs.getD ((i : Int)).toNat d = xs[i] := by
  simp [List.getD_eq_getElem?_getD, List.getElem?_eq_getElem h]

/-- What a loop answers at its end it answers from each of its places on. -/
theorem down {n : Nat} {P : Nat → Prop} (hend : P n) (hstep : ∀ i, i < n → P (i + 1) → P i) : ∀ i, i ≤ n → P i := by
  intro i hi
  obtain ⟨m, hm⟩ : ∃ m, n - i = m := ⟨_, rfl⟩
  induction m generalizing i with
  | zero =>
    have : i = n := by omega
    rw [this]; exact hend
  | succ m ih => exact hstep i (by omega) (ih (i + 1) (by omega) (by omega))
theorem down0 {n : Nat} {P : Nat → Prop} (hend : P n) (hstep : ∀ i, i < n → P (i + 1) → P i) : P 0 := down hend hstep 0 (Nat.zero_le _)

theorem ev_some {α : Type} (r : α) : Ev (fun _ => some r) r := Ev.now r
theorem ev_at {α : Type} {g : Nat → Option α} {r : α} (h : ∀ k, g (k + 1) = some r) : Ev g r := Ev.step (f := fun _ => some r) h (Ev.now r)
theorem ev_const {α : Type} {o : Option α} {r : α} (h : o = some r) : Ev (fun _ => o) r := ⟨0, fun _ _ => h⟩

/-- Sizes of a row, taken off one by one. -/
theorem sz_loop {α : Type} (d : α) (l : List α) (body : α → Int → Option Int) (Good : α → Prop) (F : Nat → Int → Int → Option Int)
    (hF : ∀ k left i, F (k + 1) left i = if i < (l.length : Int) then (if 0 ≤ i then ((body (l.getD i.toNat d) left).bind fun t => if t < 0 then some (-1) else F k t (wrap64 (i + 1))) else none) else some left)
    (hl : l.length ≤ 9223372036854775807)
    (hb : ∀ x ∈ l, ∀ left, 0 ≤ left → left ≤ 1048576 → ∃ t, body x left = some t ∧ t ≤ left ∧ (0 ≤ t → Good x)) :
    ∀ (i : Nat), i ≤ l.length → ∀ left, 0 ≤ left → left ≤ 1048576 → ∃ r, Ev (fun k => F k left (i : Int)) r ∧ r ≤ left ∧ (0 ≤ r → ∀ j, i ≤ j → ∀ h : j < l.length, Good l[j]) := by
  refine down ?_ ?_
  · intro left h0 h1
    exact ⟨left, ev_at fun k => by rw [hF, if_neg (by omega)], Int.le_refl _, fun _ j hj h => by omega⟩
  · intro i hi ih left h0 h1
    obtain ⟨t, ht, htl, htg⟩ := hb l[i] (List.getElem_mem hi) left h0 h1
    by_cases hneg : t < 0
    · refine ⟨-1, ev_at fun k => ?_, by omega, fun h => by omega⟩
      rw [hF, if_pos (by omega), if_pos (by omega), getD_nat _ _ _ hi, ht]
      simp only [Option.bind_some]
      rw [if_pos hneg]
    · obtain ⟨r, hr, hrl, hrg⟩ := ih t (by omega) (by omega)
      refine ⟨r, Ev.step (f := fun k => F k t ((i + 1 : Nat) : Int)) (fun k => ?_) hr, by omega, fun h j hj hj' => ?_⟩
      · rw [hF, if_pos (by omega), if_pos (by omega), getD_nat _ _ _ hi, ht]
        simp only [Option.bind_some]
        rw [if_neg hneg, wrap_succ hi hl]
      · rcases Nat.eq_or_lt_of_le hj with e | e
        · subst e; exact htg (by omega)
        · exact hrg h j (by omega) hj'

/-- .. and the row's own length ahead of them. -/
theorem sz_all {α : Type} (d : α) (l : List α) (body : α → Int → Option Int) (Good : α → Prop) (F : Nat → Int → Int → Option Int)
    (hF : ∀ k left i, F (k + 1) left i = if i < (l.length : Int) then (if 0 ≤ i then ((body (l.getD i.toNat d) left).bind fun t => if t < 0 then some (-1) else F k t (wrap64 (i + 1))) else none) else some left)
    (hl : l.length ≤ maxLen)
    (hb : ∀ x ∈ l, ∀ left, 0 ≤ left → left ≤ 1048576 → ∃ t, body x left = some t ∧ t ≤ left ∧ (0 ≤ t → Good x))
    (left : Int) (h0 : 0 ≤ left) (h1 : left ≤ 1048576) :
    ∃ r, Ev (fun k => if (wrap64 (left - (l.length : Int))) < 0 then some (-1) else F k (wrap64 (left - (l.length : Int))) 0) r ∧ r ≤ left ∧ (0 ≤ r → l.length ≤ 1048576 ∧ ∀ x ∈ l, Good x) := by
  rw [maxLen_eq] at hl
  rw [wrap_in (by omega) (by omega)]
  by_cases h : left - (l.length : Int) < 0
  · simp only [h, if_true]
    exact ⟨-1, Ev.now _, by omega, fun h => by omega⟩
  · simp only [h, if_false]
    obtain ⟨r, hr, hrl, hrg⟩ := sz_loop d l body Good F hF hl hb 0 (Nat.zero_le _) (left - (l.length : Int)) (by omega) (by omega)
    refine ⟨r, hr, by omega, fun h => ⟨by omega, fun x hx => ?_⟩⟩
    obtain ⟨j, hj, e⟩ := List.getElem_of_mem hx
    rw [← e]
    exact hrg h j (Nat.zero_le _) hj

/-- A row made anew, element by element. -/
theorem to_loop {α β : Type} (l : List α) (z : β) (conv : α → β) (F : Nat → List β → Int → Option (List β))
    (hend : ∀ out, Ev (fun k => F k out (l.length : Int)) out)
    (hstep : ∀ (i : Nat) (hi : i < l.length) (out r : List β), out.length = l.length → Ev (fun k => F k (out.set i (conv l[i])) ((i + 1 : Nat) : Int)) r → Ev (fun k => F k out (i : Int)) r) :
    Ev (fun k => F k (List.replicate l.length z) 0) (l.map conv) := by
  have key : ∀ i, i ≤ l.length → Ev (fun k => F k ((l.take i).map conv ++ List.replicate (l.length - i) z) (i : Int)) (l.map conv) := by
    refine down ?_ ?_
    · have := hend ((l.take l.length).map conv ++ List.replicate (l.length - l.length) z)
      simpa using this
    · intro i hi ih
      refine hstep i hi _ _ (by simp; omega) ?_
      have e : ((l.take i).map conv ++ List.replicate (l.length - i) z).set i (conv l[i]) = (l.take (i + 1)).map conv ++ List.replicate (l.length - (i + 1)) z := by
        rw [show l.length - i = (l.length - (i + 1)) + 1 by omega, List.replicate_succ]
        rw [List.set_append_right _ _ (by simp; omega)]
        simp only [List.length_map, List.length_take, Nat.min_eq_left (Nat.le_of_lt hi), Nat.sub_self, List.set_cons_zero]
        rw [List.take_succ_eq_append_getElem hi, List.map_append, List.append_assoc]
        rfl
      rw [e]
      exact ih
  simpa using key 0 (Nat.zero_le _)
end Go.Proofs.Ytkcekdedkfiddaa.Kit
