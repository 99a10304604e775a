/- A part of the proof. -/
import Derived.Test.YtnhicpkhkaihoaaCgEngM6
import Derived.Test.YtnhicpkhkaihoaaCgPZ6
import Derived.Laws.Strings
/- The small functions of the laws over their pure texts. -/
namespace Go.Proofs.Ytnhicpkhkaihoaa.P
open Go Go.Proofs.Ytnhicpkhkaihoaa Go.Proofs.Ytnhicpkhkaihoaa.Eng
set_option linter.unusedVariables false
theorem laws_eqIntS_t {C : Ctx} {l m : List Int} {K : J2} (hl : (l.length : Int) < 2 ^ 62) (h : K [.bool (decide (l = m))] []) : laws_eqIntS.txt C (tI l) (tI m) K := by
  unfold laws_eqIntS.txt
  simp only [cnt_tI]
  refine prP_neN (cndP_neN (fun hne => ?_) fun he => ?_)
  · rw [decide_eq_false (fun hh => hne (by rw [hh]))] at h; exact h
  · refine loopP_up (fun i => [iv i]) (fun _ => []) l.length (fun i => l.take i = m.take i) (fun R i hi hP hR => ?_) (i := 0) (Nat.zero_le _) (by simp)
    refine prP_ltN (cndP_d (fun hlt => ?_) fun hge => ?_)
    · have hlt' : i < m.length := he ▸ hlt
      refine ixW_iv hlt (ldc_tI hlt (ixW_iv hlt' (ldc_tI hlt' (prP_neq (cndP_ne (fun hne => ?_) fun heq => ?_)))))
      · rw [decide_eq_false (fun hh => hne (by subst hh; rfl))] at h; exact h
      · exact prP_inc (by omega) (hR hlt (by rw [List.take_succ_eq_append_getElem hlt, List.take_succ_eq_append_getElem hlt', hP, heq]))
    · have : l = m := by
        rw [List.take_of_length_le (by omega), List.take_of_length_le (by omega)] at hP; exact hP
      rw [decide_eq_true this] at h; exact h
/-- What the marks make of a row. -/
def marks (n : Int) (k : Nat) : List Int := (List.range k).map fun (i : Nat) => n + i
theorem laws_markIntS_t {C : Ctx} {n : Int} {l : List Int} {K : J2} (hl : (l.length : Int) < 2 ^ 62) (hn : 0 ≤ n ∧ n < 2 ^ 62) (h : K [I (n + l.length)] [tI (marks n l.length)]) : laws_markIntS.txt C (I n) (tI l) K := by
  unfold laws_markIntS.txt
  refine loopP_from (fun i => [I (n + i), iv i]) (fun i => [tI (marks n i ++ l.drop i)]) l.length (fun _ => True) (by simp [iv_eq]) (by simp [marks]) trivial (fun R i hi hP hR => ?_)
  have hln : (marks n i ++ l.drop i).length = l.length := by simp [marks]; omega
  have e : cnt 1 (nxc [tI (marks n i ++ l.drop i)] 0) = l.length := (cnt_tI _).trans hln
  simp only [e]
  refine prP_ltN (cndP_d (fun hlt => ?_) fun hge => ?_)
  · refine ixW_iv hlt (stc_tI (by omega) (prP_add (b := 1) ⟨by omega, by omega⟩ (prP_inc (by omega) ?_)))
    have := hR hlt trivial
    have e2 : (marks n i ++ l.drop i).set i (n + i) = marks n (i + 1) ++ l.drop (i + 1) := by
      have hml : (marks n i).length = i := by simp [marks]
      have hd : (l.drop i).set 0 (n + i) = (n + i) :: l.drop (i + 1) := by rw [List.drop_eq_getElem_cons hlt]; rfl
      rw [List.set_append_right _ _ (by omega), hml, Nat.sub_self, hd]
      simp [marks, List.range_succ]
    rw [e2]
    simpa [Int.add_assoc] using this
  · have hi' : i = l.length := by omega
    subst hi'
    show K [I (n + l.length)] [tI (marks n l.length ++ l.drop l.length)]
    rw [List.drop_length, List.append_nil]; exact h
theorem laws_toIntS_t {C : Ctx} {l : List Int} {K : J2} (hl : (l.length : Int) < 2 ^ 40) (h : K [] [tI l]) : laws_toIntS.txt C (tI l) K := by
  unfold laws_toIntS.txt
  simp only [cnt_tI]
  refine ⟨l.length, rfl, rfl, by omega, ?_⟩
  refine loopP_from (fun i => [iv i]) (fun i => [tI (l.take i ++ List.replicate (l.length - i) 0)]) l.length (fun _ => True) rfl ?_ trivial (fun R i hi hP hR => ?_)
  · simp [natOf_iv, repT, tI]
  have hln : (l.take i ++ List.replicate (l.length - i) 0).length = l.length := by simp; omega
  have e : cnt 1 (nxc [tI (l.take i ++ List.replicate (l.length - i) 0)] 0) = l.length := (cnt_tI _).trans hln
  simp only [e]
  refine prP_ltN (cndP_d (fun hlt => ?_) fun hge => ?_)
  · refine ixW_iv hlt (ldc_tI hlt (ixW_iv hlt (stc_tI (by omega) (prP_inc (by omega) ?_))))
    have := hR hlt trivial
    have e2 : (l.take i ++ List.replicate (l.length - i) 0).set i l[i] = l.take (i + 1) ++ List.replicate (l.length - (i + 1)) 0 := by
      have hml : (l.take i).length = i := by simp; omega
      obtain ⟨k, hk⟩ : ∃ k, l.length - i = k + 1 := ⟨l.length - i - 1, by omega⟩
      rw [List.set_append_right _ _ (by omega), hml, Nat.sub_self, hk, List.replicate_succ, List.set_cons_zero, List.take_succ_eq_append_getElem hlt, show l.length - (i + 1) = k by omega, List.append_assoc]
      rfl
    rw [e2]
    exact this
  · have hi' : i = l.length := by omega
    subst hi'
    show K [] [tI (l.take l.length ++ List.replicate (l.length - l.length) 0)]
    rw [List.take_length, Nat.sub_self, List.replicate_zero, List.append_nil]; exact h
end Go.Proofs.Ytnhicpkhkaihoaa.P
/- Rows of texts: what the laws' small functions make of them. -/
namespace Go.Proofs.Ytnhicpkhkaihoaa.P
open Go Go.Proofs.Ytnhicpkhkaihoaa Go.Proofs.Ytnhicpkhkaihoaa.Eng
set_option linter.unusedVariables false
theorem cndP_neS {a b : ByteArray} {p q : Prop} (h1 : a ≠ b → p) (h2 : a = b → q) : cndP (.bool !(a.toList == b.toList)) p q :=
  cndP_i (fun h => h1 (by rintro rfl; simp at h)) (fun h => h2 (BA_ext (by simpa using h)))
theorem laws_eqStringS_t {C : Ctx} {l m : List ByteArray} {K : J2} (hl : (l.length : Int) < 2 ^ 62) (h : K [.bool (decide (l = m))] []) : laws_eqStringS.txt C (tS l) (tS m) K := by
  unfold laws_eqStringS.txt
  simp only [cnt_tS]
  refine prP_neN (cndP_neN (fun hne => ?_) fun he => ?_)
  · rw [decide_eq_false (fun hh => hne (by rw [hh]))] at h; exact h
  · refine loopP_up (fun i => [iv i]) (fun _ => []) l.length (fun i => l.take i = m.take i) (fun R i hi hP hR => ?_) (i := 0) (Nat.zero_le _) (by simp)
    refine prP_ltN (cndP_d (fun hlt => ?_) fun hge => ?_)
    · have hlt' : i < m.length := he ▸ hlt
      refine ixW_iv hlt (ldc_tS hlt (ixW_iv hlt' (ldc_tS hlt' (prP_neqS (cndP_neS (fun hne => ?_) fun heq => ?_)))))
      · rw [decide_eq_false (fun hh => hne (by subst hh; rfl))] at h; exact h
      · exact prP_inc (by omega) (hR hlt (by rw [List.take_succ_eq_append_getElem hlt, List.take_succ_eq_append_getElem hlt', hP, heq]))
    · have : l = m := by
        rw [List.take_of_length_le (by omega), List.take_of_length_le (by omega)] at hP; exact hP
      rw [decide_eq_true this] at h; exact h
theorem laws_szStringS_t {C : Ctx} {n : Int} {l : List ByteArray} {K : J2} (hl : (l.length : Int) < 2 ^ 63) (hs : ∀ s ∈ l, (s.size : Int) < 2 ^ 63) (hn : 0 ≤ n ∧ n ≤ 2 ^ 62) (h0 : K [I (-1)] []) (h1 : ∀ r, 0 ≤ r → r ≤ n → (l.length : Int) ≤ n → (∀ s ∈ l, (s.size : Int) ≤ n) → K [I r] []) : laws_szStringS.txt C (I n) (tS l) K := by
  unfold laws_szStringS.txt
  simp only [cnt_tS]
  refine prP_sub (b := Int.ofNat l.length) ⟨by simp only [Int.ofNat_eq_natCast]; omega, by simp only [Int.ofNat_eq_natCast]; omega⟩ (prP_lss (cndP_d (fun _ => h0) fun hge => ?_))
  simp only [Int.ofNat_eq_natCast] at hge
  refine loopP_wf (α := Int × Nat) (fun p => [I p.1, iv p.2]) (fun _ => []) (fun p => l.length - p.2) (fun p => 0 ≤ p.1 ∧ p.1 ≤ n ∧ p.2 ≤ l.length ∧ ∀ s ∈ l.take p.2, (s.size : Int) ≤ n) (n - l.length, 0) rfl rfl ⟨by omega, by simp only; omega, Nat.zero_le _, by simp⟩ (fun R p hp hR => ?_)
  obtain ⟨r, i⟩ := p
  obtain ⟨p1, p2, p3, p4⟩ := hp
  refine prP_ltN (cndP_d (fun hlt => ?_) fun hge => ?_)
  · have hsz := hs _ (List.getElem_mem hlt)
    refine ixW_iv hlt (ldc_tS hlt (prP_lnS (prP_sub ⟨by simp only at p1; omega, by simp only at p2; omega⟩ (prP_lss (cndP_d (fun _ => h0) fun hge => ?_)))))
    have hge : ¬ r - (l[i].size : Int) < 0 := hge
    refine prP_inc (by omega) (hR (r - l[i].size, i + 1) ⟨by simp only; omega, by simp only at p2 ⊢; omega, hlt, fun s hs => ?_⟩ (by simp only; omega))
    simp only [List.take_succ_eq_append_getElem hlt, List.mem_append, List.mem_singleton] at hs
    rcases hs with hs | rfl
    · exact p4 s hs
    · simp only at p2; omega
  · have : i = l.length := by simp only at p3; omega
    subst this
    exact h1 r p1 p2 (by omega) (by simpa using p4)
theorem laws_toStringS_t {C : Ctx} {l : List ByteArray} {K : J2} (hl : (l.length : Int) < 2 ^ 40) (h : K [] [tS l]) : laws_toStringS.txt C (tS l) K := by
  unfold laws_toStringS.txt
  simp only [cnt_tS]
  refine ⟨l.length, rfl, rfl, by omega, ?_⟩
  refine loopP_from (fun i => [iv i]) (fun i => [tS (l.take i ++ List.replicate (l.length - i) ⟨#[]⟩)]) l.length (fun _ => True) rfl ?_ trivial (fun R i hi hP hR => ?_)
  · simp [natOf_iv, repT, tS]
  have hln : (l.take i ++ List.replicate (l.length - i) (⟨#[]⟩ : ByteArray)).length = l.length := by simp; omega
  have e : cnt 1 (nxc [tS (l.take i ++ List.replicate (l.length - i) ⟨#[]⟩)] 0) = l.length := (cnt_tS _).trans hln
  simp only [e]
  refine prP_ltN (cndP_d (fun hlt => ?_) fun hge => ?_)
  · refine ixW_iv hlt (ldc_tS hlt (ixW_iv hlt (stc_tS (by omega) (prP_inc (by omega) ?_))))
    have := hR hlt trivial
    have e2 : (l.take i ++ List.replicate (l.length - i) (⟨#[]⟩ : ByteArray)).set i l[i] = l.take (i + 1) ++ List.replicate (l.length - (i + 1)) ⟨#[]⟩ := by
      have hml : (l.take i).length = i := by simp; omega
      obtain ⟨k, hk⟩ : ∃ k, l.length - i = k + 1 := ⟨l.length - i - 1, by omega⟩
      rw [List.set_append_right _ _ (by omega), hml, Nat.sub_self, hk, List.replicate_succ, List.set_cons_zero, List.take_succ_eq_append_getElem hlt, show l.length - (i + 1) = k by omega, List.append_assoc]
      rfl
    rw [e2]
    exact this
  · have hi' : i = l.length := by omega
    subst hi'
    show K [] [tS (l.take l.length ++ List.replicate (l.length - l.length) ⟨#[]⟩)]
    rw [List.take_length, Nat.sub_self, List.replicate_zero, List.append_nil]; exact h
/-- The digits of a number ahead of s. -/
def digs : Nat → Nat → ByteArray → ByteArray
  | 0, _, s => s
  | k + 1, n, s => if n = 0 then s else digs k (n / 10) (ByteArray.empty.push (UInt8.ofNat (48 + n % 10)) ++ s)
/-- The text that a mark is. -/
def mt (n : Int) : ByteArray := if n ≤ 0 then ⟨#[109, 48]⟩ else ⟨#[109]⟩ ++ digs 20 n.toNat ⟨#[]⟩
theorem laws_markText_t {C : Ctx} {n : Int} {K : J2} (hn : n < 2 ^ 63) (h : K [.string (mt n)] []) : laws_markText.txt C (I n) K := by
  unfold laws_markText.txt
  refine prP_leq (cndP_d (fun hle => ?_) fun hgt => ?_)
  · rw [mt, if_pos hle] at h; exact h
  · rw [mt, if_neg hgt] at h
    obtain ⟨m, rfl⟩ : ∃ m : Nat, n = m := ⟨n.toNat, by omega⟩
    refine loopP_wf (α := Nat × Nat × ByteArray) (fun p => [iv p.2.1, .string p.2.2]) (fun _ => []) (fun p => p.1) (fun p => p.2.1 < 10 ^ p.1 ∧ p.2.1 < 2 ^ 63 ∧ p.1 ≤ 20 ∧ p.2.2.size + p.1 ≤ 20 ∧ digs p.1 p.2.1 p.2.2 = digs 20 m ⟨#[]⟩) (20, m, ⟨#[]⟩) rfl rfl ⟨by simp only; omega, by simp only; omega, Nat.le_refl _, Nat.le_refl _, rfl⟩ (fun R p hp hR => ?_)
    obtain ⟨k, m', s⟩ := p
    obtain ⟨p1, p2, p3, p4, p5⟩ := hp
    simp only at p1 p2 p3 p4 p5
    refine prP_gtr (a := Int.ofNat m') (b := 0) (cndP_d (fun hlt => ?_) fun hge => ?_)
    · have hlt : 0 < m' := by simpa using hlt
      cases k with
      | zero => simp at p1; omega
      | succ k =>
        refine prP_some (v := .int .i64 ((Int.ofNat m').tmod 10)) rfl ?_
        refine prP_add (a := 48) (b := (Int.ofNat m').tmod 10) ?_ ?_
        · have h1 : (Int.ofNat m').tmod 10 = ((m' % 10 : Nat) : Int) := by simp [Int.tmod_eq_emod_of_nonneg]
          rw [h1]; constructor <;> omega
        · have h1 : (Int.ofNat m').tmod 10 = ((m' % 10 : Nat) : Int) := by simp [Int.tmod_eq_emod_of_nonneg]
          rw [h1]
          refine prP_some (v := .int .u8 (IntKind.u8.wrap (48 + ((m' % 10 : Nat) : Int)))) rfl ?_
          have h2 : IntKind.u8.wrap (48 + ((m' % 10 : Nat) : Int)) = ((48 + m' % 10 : Nat) : Int) := by rw [IntKind.wrap_u8]; omega
          rw [h2]
          refine prP_some (v := .string (ByteArray.empty.push (UInt8.ofNat (48 + m' % 10)))) rfl ?_
          refine prP_catS (by simp only [ByteArray.size_push, ByteArray.size_empty]; omega) ?_
          have h3 : (Int.ofNat m').tdiv 10 = ((m' / 10 : Nat) : Int) := rfl
          refine prP_some (v := .int .i64 (IntKind.i64.wrap ((Int.ofNat m').tdiv 10))) rfl ?_
          rw [h3, wrap_64 ⟨by omega, by omega⟩]
          refine hR (k, m' / 10, ByteArray.empty.push (UInt8.ofNat (48 + m' % 10)) ++ s) ⟨?_, by simp only; omega, by simp only; omega, ?_, ?_⟩ (Nat.lt_succ_self k)
          · simp only; rw [Nat.pow_succ] at p1; omega
          · simp only [ByteArray.size_append, ByteArray.size_push, ByteArray.size_empty]; omega
          · simp only
            rw [← p5, digs, if_neg (by omega)]
    · have hz : m' = 0 := by simpa using hge
      subst hz
      have h6 : (⟨#[109]⟩ : ByteArray).size = 1 := rfl
      have h7 : s.size < 2 ^ 62 := by omega
      refine prP_catS (by rw [h6]; show 1 + s.size < 2 ^ 63; omega) ?_
      have h4 : digs k 0 s = s := by cases k <;> rfl
      rw [h4] at p5
      rw [show (m : Int).toNat = m from Int.toNat_natCast m, ← p5] at h
      exact h
/-- What the marks make of a row of texts. -/
def marksS (n : Int) (k : Nat) : List ByteArray := (List.range k).map fun (i : Nat) => mt (n + i)
theorem laws_markStringS_t {w0 : World} {n : Int} {l : List ByteArray} {K : J2} (hl : (l.length : Int) < 2 ^ 62) (hn : 0 ≤ n ∧ n < 2 ^ 62) (h : K [I (n + l.length)] [tS (marksS n l.length)]) : laws_markStringS.txt ⟨Try.prog, w0⟩ (I n) (tS l) K := by
  unfold laws_markStringS.txt
  refine loopP_from (fun i => [I (n + i), iv i]) (fun i => [tS (marksS n i ++ l.drop i)]) l.length (fun _ => True) (by simp [iv_eq]) (by simp [marksS]) trivial (fun R i hi hP hR => ?_)
  have hln : (marksS n i ++ l.drop i).length = l.length := by simp [marksS]; omega
  have e : cnt 1 (nxc [tS (marksS n i ++ l.drop i)] 0) = l.length := (cnt_tS _).trans hln
  simp only [e]
  refine prP_ltN (cndP_d (fun hlt => ?_) fun hge => ?_)
  · refine laws_markText.cl2 (laws_markText_t (by omega) ?_)
    refine ixW_iv hlt (stc_tS (by omega) (prP_add (b := 1) ⟨by omega, by omega⟩ (prP_inc (by omega) ?_)))
    have := hR hlt trivial
    have e2 : (marksS n i ++ l.drop i).set i (mt (n + i)) = marksS n (i + 1) ++ l.drop (i + 1) := by
      have hml : (marksS n i).length = i := by simp [marksS]
      have hd : (l.drop i).set 0 (mt (n + i)) = mt (n + i) :: l.drop (i + 1) := by rw [List.drop_eq_getElem_cons hlt]; rfl
      rw [List.set_append_right _ _ (by omega), hml, Nat.sub_self, hd]
      simp [marksS, List.range_succ]
    rw [e2]
    simpa [Int.add_assoc] using this
  · have hi' : i = l.length := by omega
    subst hi'
    show K [I (n + l.length)] [tS (marksS n l.length ++ l.drop l.length)]
    rw [List.drop_length, List.append_nil]; exact h
theorem laws_heldStringS_t {w0 : World} {n : Int} {l : List ByteArray} {K : J2} (hl : (l.length : Int) < 2 ^ 62) (hn : 0 ≤ n ∧ n < 2 ^ 62) (h : K [I (if l = marksS n l.length then n + l.length else -1)] []) : laws_heldStringS.txt ⟨Try.prog, w0⟩ (I n) (tS l) K := by
  unfold laws_heldStringS.txt
  simp only [cnt_tS]
  refine loopP_from (fun i => [I (n + i), iv i]) (fun _ => []) l.length (fun i => ∀ j (hj : j < l.length), j < i → l[j] = mt (n + j)) (by simp [iv_eq]) rfl (by simp) (fun R i hi hP hR => ?_)
  refine prP_ltN (cndP_d (fun hlt => ?_) fun hge => ?_)
  · refine ixW_iv hlt (ldc_tS hlt (laws_markText.cl2 (laws_markText_t (by omega) (prP_neqS (cndP_neS (fun hne => ?_) fun heq => ?_)))))
    · rw [if_neg (fun hh => hne (by have := congrArg (·[i]?) hh; simpa [hlt, marksS] using this))] at h; exact h
    · refine prP_add (b := 1) ⟨by omega, by omega⟩ (prP_inc (by omega) ?_)
      have := hR hlt (fun j hj hji => by
        rcases Nat.lt_succ_iff_lt_or_eq.1 hji with h1 | h1
        · exact hP j hj h1
        · subst h1; exact heq)
      simpa [Int.add_assoc] using this
  · have hi' : i = l.length := by omega
    subst hi'
    rw [if_pos (List.ext_getElem (by simp [marksS]) fun j h1 h2 => by simpa [marksS] using hP j h1 h1)] at h
    exact h
end Go.Proofs.Ytnhicpkhkaihoaa.P
