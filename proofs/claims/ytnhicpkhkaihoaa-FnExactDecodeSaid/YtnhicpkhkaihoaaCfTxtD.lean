/- ShowEvent's words: numbers and texts. -/
import Derived.Test.YtnhicpkhkaihoaaCfTxtC
namespace Go.Proofs.Ytnhicpkhkaihoaa.P
open Go Go.Proofs.Ytnhicpkhkaihoaa Go.Proofs.Ytnhicpkhkaihoaa.Eng
set_option linter.unusedVariables false
def tB (l : List Nat) : List T := l.map fun (b : Nat) => .c (.int .u8 (b : Int))
def bytesL (l : List Nat) : ByteArray := l.foldl (fun b n => b.push (UInt8.ofNat n)) ByteArray.empty
theorem b2T_tB (l : List Nat) : b2T (tB l) = some (.string (bytesL l)) := by
  have h1 : (tB l).all isByteT = true := by simp [tB, isByteT]
  have h2 : ∀ (l : List Nat) (b : ByteArray), (tB l).foldl pushT b = l.foldl (fun b n => b.push (UInt8.ofNat n)) b := by
    intro l
    induction l with
    | nil => intro b; rfl
    | cons a l ih => intro b; exact ih _
  simp only [b2T, h1, if_true, h2]; rfl
theorem bytesL_size (l : List Nat) : (bytesL l).size = l.length := by
  have : ∀ (l : List Nat) (b : ByteArray), (l.foldl (fun b n => b.push (UInt8.ofNat n)) b).size = b.size + l.length := by
    intro l
    induction l with
    | nil => intro b; rfl
    | cons a l ih => intro b; rw [List.foldl_cons, ih, ByteArray.size_push, List.length_cons]; omega
  rw [bytesL, this]; simp
/-- A number in sevens of bits. -/
def vd : Nat → Nat → List Nat
  | 0, n => [n]
  | k + 1, n => if n ≥ 128 then (128 + n % 128) :: vd k (n / 128) else [n]
theorem vd_len : ∀ k n, (vd k n).length ≤ k + 1
  | 0, n => by simp [vd]
  | k + 1, n => by
    unfold vd; split
    · have := vd_len k (n / 128); simp only [List.length_cons]; omega
    · simp
def V (n : Int) : ByteArray := if inB n 0 562949953421311 then bytesL (vd 6 n.toNat) else ⟨#[]⟩
theorem V_size (n : Int) : (V n).size ≤ 7 := by
  unfold V; split
  · rw [bytesL_size]; exact vd_len 6 _
  · exact Nat.zero_le _
theorem cnt_tB (l : List Nat) : cnt 1 (tB l) = l.length := by simp [cnt, tB]
theorem apW_i {c : List T} {n m b : Nat} {q : Prop} (hf : flat c = true) (hn : (n + m) * b ≤ 2 ^ 47) (h : q) : apW c true n m b q := ⟨fun _ => hf, hn, h⟩
theorem spec_Var_c {w0 : World} {n : Int} {K : J2} (hn : F64 n) (h : K [.string (V n)] []) : cl2 ⟨Try.prog, w0⟩ 123 spec_Var.sg [I n] [] K := by
  refine spec_Var.cl2 ?_
  unfold spec_Var.txt
  refine spec_l1In_c (prP_not (cndP_i (fun hb => ?_) fun hb => ?_))
  · have hb : inB n 0 562949953421311 = false := by simpa using hb
    rw [V, hb] at h; exact h
  · have hb : inB n 0 562949953421311 = true := by simpa using hb
    rw [V, if_pos hb] at h
    unfold inB at hb
    simp only [Bool.and_eq_true, decide_eq_true_eq] at hb
    obtain ⟨m, rfl⟩ : ∃ m : Nat, n = m := ⟨n.toNat, by omega⟩
    rw [Int.toNat_natCast] at h
    refine loopP_wf (α := Nat × Nat × List Nat) (fun p => [iv p.2.1]) (fun p => [tB p.2.2]) (fun p => p.1) (fun p => p.2.1 < 128 ^ (p.1 + 1) ∧ p.2.1 < 2 ^ 62 ∧ p.2.2.length + p.1 ≤ 6 ∧ p.2.2 ++ vd p.1 p.2.1 = vd 6 m) (6, m, []) rfl rfl ⟨by simp only; omega, by simp only; omega, by simp, rfl⟩ (fun R p hp hR => ?_)
    obtain ⟨k, m', l⟩ := p
    obtain ⟨p1, p2, p3, p4⟩ := hp
    simp only at p1 p2 p3 p4
    have hcn : cnt 1 (nxc [tB l] 0) = l.length := cnt_tB l
    simp only [hcn]
    refine prP_geq (a := Int.ofNat m') (b := 128) (cndP_d (fun hge => ?_) fun hlt => ?_)
    · have hge : 128 ≤ m' := by simp at hge; omega
      cases k with
      | zero => simp at p1; omega
      | succ k =>
        have h1 : (Int.ofNat m').tmod 128 = ((m' % 128 : Nat) : Int) := by simp [Int.tmod_eq_emod_of_nonneg]
        refine prP_some (v := .int .i64 ((Int.ofNat m').tmod 128)) rfl ?_
        rw [h1]
        refine prP_add (a := 128) ⟨by omega, by omega⟩ ?_
        refine prP_some (v := .int .u8 (IntKind.u8.wrap (128 + ((m' % 128 : Nat) : Int)))) rfl ?_
        have h2 : IntKind.u8.wrap (128 + ((m' % 128 : Nat) : Int)) = ((128 + m' % 128 : Nat) : Int) := by rw [IntKind.wrap_u8]; omega
        rw [h2]
        refine apW_i rfl (by simp [cnt]; omega) ?_
        have h3 : (Int.ofNat m').tdiv 128 = ((m' / 128 : Nat) : Int) := rfl
        refine prP_some (v := .int .i64 (IntKind.i64.wrap ((Int.ofNat m').tdiv 128))) rfl ?_
        rw [h3, wrap_64 ⟨by omega, by omega⟩]
        have := hR (k, m' / 128, l ++ [128 + m' % 128]) ⟨by simp only; rw [Nat.pow_succ] at p1; omega, by simp only; omega, by simp; omega, by simp only; rw [← p4, vd, if_pos hge]; simp⟩ (Nat.lt_succ_self k)
        have e9 : tB (l ++ [128 + m' % 128]) = tB l ++ [T.c (.int .u8 ((128 + m' % 128 : Nat) : Int))] := by simp [tB]
        show R [iv (m' / 128)] [tB l ++ [T.c (.int .u8 ((128 + m' % 128 : Nat) : Int))]]
        rw [← e9]; exact this
    · have hlt : m' < 128 := by simp at hlt; omega
      refine prP_some (v := .int .u8 (IntKind.u8.wrap (Int.ofNat m'))) rfl ?_
      have h2 : IntKind.u8.wrap (Int.ofNat m') = (m' : Int) := by rw [IntKind.wrap_u8]; simp only [Int.ofNat_eq_natCast]; omega
      rw [h2]
      refine apW_i rfl (by simp [cnt]; omega) ?_
      have h4 : vd k m' = [m'] := by cases k with | zero => rfl | succ k => rw [vd, if_neg (by omega)]
      have h5 : nxc [tB l] 0 ++ [T.c (.int .u8 (m' : Int))] = tB (vd 6 m) := by rw [← p4, h4]; simp [tB, nxc]
      rw [h5, b2T_tB]
      exact prP_some rfl h
theorem impl_Var_c {w0 : World} {n : Int} {K : J2} (hn : F64 n) (h : K [.string (V n)] []) : cl2 ⟨Try.prog, w0⟩ 116 impl_Var.sg [I n] [] K := by
  refine impl_Var.cl2 ?_
  unfold impl_Var.txt
  refine impl_in_c (prP_not (cndP_i (fun hb => ?_) fun hb => ?_))
  · have hb : inB n 0 562949953421311 = false := by simpa using hb
    rw [V, hb] at h; exact h
  · have hb : inB n 0 562949953421311 = true := by simpa using hb
    rw [V, if_pos hb] at h
    unfold inB at hb
    simp only [Bool.and_eq_true, decide_eq_true_eq] at hb
    obtain ⟨m, rfl⟩ : ∃ m : Nat, n = m := ⟨n.toNat, by omega⟩
    rw [Int.toNat_natCast] at h
    refine loopP_wf (α := Nat × Nat × List Nat) (fun p => [iv p.2.1]) (fun p => [tB p.2.2]) (fun p => p.1) (fun p => p.2.1 < 128 ^ (p.1 + 1) ∧ p.2.1 < 2 ^ 62 ∧ p.2.2.length + p.1 ≤ 6 ∧ p.2.2 ++ vd p.1 p.2.1 = vd 6 m) (6, m, []) rfl rfl ⟨by simp only; omega, by simp only; omega, by simp, rfl⟩ (fun R p hp hR => ?_)
    obtain ⟨k, m', l⟩ := p
    obtain ⟨p1, p2, p3, p4⟩ := hp
    simp only at p1 p2 p3 p4
    have hcn : cnt 1 (nxc [tB l] 0) = l.length := cnt_tB l
    simp only [hcn]
    refine prP_gtr (a := Int.ofNat m') (b := 127) (cndP_d (fun hge => ?_) fun hlt => ?_)
    · have hge : 128 ≤ m' := by simp at hge; omega
      cases k with
      | zero => simp at p1; omega
      | succ k =>
        have h1 : (Int.ofNat m').tmod 128 = ((m' % 128 : Nat) : Int) := by simp [Int.tmod_eq_emod_of_nonneg]
        refine prP_some (v := .int .i64 ((Int.ofNat m').tmod 128)) rfl ?_
        rw [h1]
        refine prP_add (b := 128) ⟨by omega, by omega⟩ ?_
        refine prP_some (v := .int .u8 (IntKind.u8.wrap (((m' % 128 : Nat) : Int) + 128))) rfl ?_
        have h2 : IntKind.u8.wrap (((m' % 128 : Nat) : Int) + 128) = ((128 + m' % 128 : Nat) : Int) := by rw [IntKind.wrap_u8]; omega
        rw [h2]
        refine apW_i rfl (by simp [cnt]; omega) ?_
        have h3 : (Int.ofNat m').tdiv 128 = ((m' / 128 : Nat) : Int) := rfl
        refine prP_some (v := .int .i64 (IntKind.i64.wrap ((Int.ofNat m').tdiv 128))) rfl ?_
        rw [h3, wrap_64 ⟨by omega, by omega⟩]
        have := hR (k, m' / 128, l ++ [128 + m' % 128]) ⟨by simp only; rw [Nat.pow_succ] at p1; omega, by simp only; omega, by simp; omega, by simp only; rw [← p4, vd, if_pos hge]; simp⟩ (Nat.lt_succ_self k)
        have e9 : tB (l ++ [128 + m' % 128]) = tB l ++ [T.c (.int .u8 ((128 + m' % 128 : Nat) : Int))] := by simp [tB]
        show R [iv (m' / 128)] [tB l ++ [T.c (.int .u8 ((128 + m' % 128 : Nat) : Int))]]
        rw [← e9]; exact this
    · have hlt : m' < 128 := by simp at hlt; omega
      refine prP_some (v := .int .u8 (IntKind.u8.wrap (Int.ofNat m'))) rfl ?_
      have h2 : IntKind.u8.wrap (Int.ofNat m') = (m' : Int) := by rw [IntKind.wrap_u8]; simp only [Int.ofNat_eq_natCast]; omega
      rw [h2]
      refine apW_i rfl (by simp [cnt]; omega) ?_
      have h4 : vd k m' = [m'] := by cases k with | zero => rfl | succ k => rw [vd, if_neg (by omega)]
      have h5 : nxc [tB l] 0 ++ [T.c (.int .u8 (m' : Int))] = tB (vd 6 m) := by rw [← p4, h4]; simp [tB, nxc]
      rw [h5, b2T_tB]
      exact prP_some rfl h
attribute [irreducible] V
end Go.Proofs.Ytnhicpkhkaihoaa.P
