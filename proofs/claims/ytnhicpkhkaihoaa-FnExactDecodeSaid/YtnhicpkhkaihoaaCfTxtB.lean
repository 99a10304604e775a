/- Rows of texts: what the laws' small functions make of them. -/
import Derived.Test.YtnhicpkhkaihoaaCfTxtA
import Derived.Laws.Strings
namespace Go.Proofs.Ytnhicpkhkaihoaa.P
open Go Go.Proofs.Ytnhicpkhkaihoaa Go.Proofs.Ytnhicpkhkaihoaa.Eng
set_option linter.unusedVariables false
/-- The digits of a number ahead of s. -/
def digs : Nat → Nat → ByteArray → ByteArray
  | 0, _, s => s
  | k + 1, n, s => if n = 0 then s else digs k (n / 10) (ByteArray.empty.push (UInt8.ofNat (48 + n % 10)) ++ s)
/-- The text that a mark is. -/
def mt (n : Int) : ByteArray := if n ≤ 0 then ⟨#[109, 48]⟩ else ⟨#[109]⟩ ++ digs 20 n.toNat ⟨#[]⟩
theorem laws_markText_t {C : Ctx} {n : Int} {K : J2} (hn : n < 2 ^ 63) (h : K [.string (mt n)] []) : laws_markText.txt C (I n) K := by
  unfold laws_markText.txt
  refine prP_leq (cndP_d (fun hle => ?_) fun hgt => ?_)
  · rw [mt, if_pos hle] at h; exact h
  · rw [mt, if_neg hgt] at h
    obtain ⟨m, rfl⟩ : ∃ m : Nat, n = m := ⟨n.toNat, by omega⟩
    refine loopP_wf (α := Nat × Nat × ByteArray) (fun p => [iv p.2.1, .string p.2.2]) (fun _ => []) (fun p => p.1) (fun p => p.2.1 < 10 ^ p.1 ∧ p.2.1 < 2 ^ 63 ∧ p.1 ≤ 20 ∧ p.2.2.size + p.1 ≤ 20 ∧ digs p.1 p.2.1 p.2.2 = digs 20 m ⟨#[]⟩) (20, m, ⟨#[]⟩) rfl rfl ⟨by simp only; omega, by simp only; omega, Nat.le_refl _, Nat.le_refl _, rfl⟩ (fun R p hp hR => ?_)
    obtain ⟨k, m', s⟩ := p
    obtain ⟨p1, p2, p3, p4, p5⟩ := hp
    simp only at p1 p2 p3 p4 p5
    refine prP_gtr (a := Int.ofNat m') (b := 0) (cndP_d (fun hlt => ?_) fun hge => ?_)
    · have hlt : 0 < m' := by simpa using hlt
      cases k with
      | zero => simp at p1; omega
      | succ k =>
        refine prP_some (v := .int .i64 ((Int.ofNat m').tmod 10)) rfl ?_
        refine prP_add (a := 48) (b := (Int.ofNat m').tmod 10) ?_ ?_
        · have h1 : (Int.ofNat m').tmod 10 = ((m' % 10 : Nat) : Int) := by simp [Int.tmod_eq_emod_of_nonneg]
          rw [h1]; constructor <;> omega
        · have h1 : (Int.ofNat m').tmod 10 = ((m' % 10 : Nat) : Int) := by simp [Int.tmod_eq_emod_of_nonneg]
          rw [h1]
          refine prP_some (v := .int .u8 (IntKind.u8.wrap (48 + ((m' % 10 : Nat) : Int)))) rfl ?_
          have h2 : IntKind.u8.wrap (48 + ((m' % 10 : Nat) : Int)) = ((48 + m' % 10 : Nat) : Int) := by rw [IntKind.wrap_u8]; omega
          rw [h2]
          refine prP_some (v := .string (ByteArray.empty.push (UInt8.ofNat (48 + m' % 10)))) rfl ?_
          refine prP_catS (by simp only [ByteArray.size_push, ByteArray.size_empty]; omega) ?_
          have h3 : (Int.ofNat m').tdiv 10 = ((m' / 10 : Nat) : Int) := rfl
          refine prP_some (v := .int .i64 (IntKind.i64.wrap ((Int.ofNat m').tdiv 10))) rfl ?_
          rw [h3, wrap_64 ⟨by omega, by omega⟩]
          refine hR (k, m' / 10, ByteArray.empty.push (UInt8.ofNat (48 + m' % 10)) ++ s) ⟨?_, by simp only; omega, by simp only; omega, ?_, ?_⟩ (Nat.lt_succ_self k)
          · simp only; rw [Nat.pow_succ] at p1; omega
          · simp only [ByteArray.size_append, ByteArray.size_push, ByteArray.size_empty]; omega
          · simp only
            rw [← p5, digs, if_neg (by omega)]
    · have hz : m' = 0 := by simpa using hge
      subst hz
      have h6 : (⟨#[109]⟩ : ByteArray).size = 1 := rfl
      have h7 : s.size < 2 ^ 62 := by omega
      refine prP_catS (by rw [h6]; show 1 + s.size < 2 ^ 63; omega) ?_
      have h4 : digs k 0 s = s := by cases k <;> rfl
      rw [h4] at p5
      rw [show (m : Int).toNat = m from Int.toNat_natCast m, ← p5] at h
      exact h
end Go.Proofs.Ytnhicpkhkaihoaa.P
