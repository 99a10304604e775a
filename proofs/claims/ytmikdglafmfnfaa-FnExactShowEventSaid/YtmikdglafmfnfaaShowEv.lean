/- ShowEvent over its pure texts: its functions and its law. -/
import Derived.Test.YtmikdglafmfnfaaEngQ
import Derived.Test.YtmikdglafmfnfaaPS0
import Derived.Laws.Strings
namespace Go.Proofs.Ytmikdglafmfnfaa.P
open Go Go.Proofs.Ytmikdglafmfnfaa Go.Proofs.Ytmikdglafmfnfaa.Eng
set_option linter.unusedVariables false
set_option linter.unusedSimpArgs false
theorem laws_eqIntS_t {C : Ctx} {l m : List Int} {K : J2} (hl : (l.length : Int) < 2 ^ 62) (h : K [.bool (decide (l = m))] []) : laws_eqIntS.txt C (tI l) (tI m) K := by
  unfold laws_eqIntS.txt
  simp only [cnt_tI]
  refine prP_neN (cndP_neN (fun hne => ?_) fun he => ?_)
  · rw [decide_eq_false (fun hh => hne (by rw [hh]))] at h; exact h
  · refine loopP_up (fun i => [iv i]) (fun _ => []) l.length (fun i => l.take i = m.take i) (fun R i hi hP hR => ?_) (i := 0) (Nat.zero_le _) (by simp)
    refine prP_ltN (cndP_d (fun hlt => ?_) fun hge => ?_)
    · have hlt' : i < m.length := he ▸ hlt
      refine ixW_iv hlt (ldc_tI hlt (ixW_iv hlt' (ldc_tI hlt' (prP_neq (cndP_ne (fun hne => ?_) fun heq => ?_)))))
      · rw [decide_eq_false (fun hh => hne (by subst hh; rfl))] at h; exact h
      · exact prP_inc (by omega) (hR hlt (by rw [List.take_succ_eq_append_getElem hlt, List.take_succ_eq_append_getElem hlt', hP, heq]))
    · have : l = m := by
        rw [List.take_of_length_le (by omega), List.take_of_length_le (by omega)] at hP; exact hP
      rw [decide_eq_true this] at h; exact h
/-- What the marks make of a row. -/
def marks (n : Int) (k : Nat) : List Int := (List.range k).map fun (i : Nat) => n + i
theorem laws_markIntS_t {C : Ctx} {n : Int} {l : List Int} {K : J2} (hl : (l.length : Int) < 2 ^ 62) (hn : 0 ≤ n ∧ n < 2 ^ 62) (h : K [I (n + l.length)] [tI (marks n l.length)]) : laws_markIntS.txt C (I n) (tI l) K := by
  unfold laws_markIntS.txt
  refine loopP_from (fun i => [I (n + i), iv i]) (fun i => [tI (marks n i ++ l.drop i)]) l.length (fun _ => True) (by simp [iv_eq]) (by simp [marks]) trivial (fun R i hi hP hR => ?_)
  have hln : (marks n i ++ l.drop i).length = l.length := by simp [marks]; omega
  have e : cnt 1 (nxc [tI (marks n i ++ l.drop i)] 0) = l.length := (cnt_tI _).trans hln
  simp only [e]
  refine prP_ltN (cndP_d (fun hlt => ?_) fun hge => ?_)
  · refine ixW_iv hlt (stc_tI (by omega) (prP_add (b := 1) ⟨by omega, by omega⟩ (prP_inc (by omega) ?_)))
    have := hR hlt trivial
    have e2 : (marks n i ++ l.drop i).set i (n + i) = marks n (i + 1) ++ l.drop (i + 1) := by
      have hml : (marks n i).length = i := by simp [marks]
      have hd : (l.drop i).set 0 (n + i) = (n + i) :: l.drop (i + 1) := by rw [List.drop_eq_getElem_cons hlt]; rfl
      rw [List.set_append_right _ _ (by omega), hml, Nat.sub_self, hd]
      simp [marks, List.range_succ]
    rw [e2]
    simpa [Int.add_assoc] using this
  · have hi' : i = l.length := by omega
    subst hi'
    show K [I (n + l.length)] [tI (marks n l.length ++ l.drop l.length)]
    rw [List.drop_length, List.append_nil]; exact h
theorem laws_toIntS_t {C : Ctx} {l : List Int} {K : J2} (hl : (l.length : Int) < 2 ^ 40) (h : K [] [tI l]) : laws_toIntS.txt C (tI l) K := by
  unfold laws_toIntS.txt
  simp only [cnt_tI]
  refine ⟨l.length, rfl, rfl, by omega, ?_⟩
  refine loopP_from (fun i => [iv i]) (fun i => [tI (l.take i ++ List.replicate (l.length - i) 0)]) l.length (fun _ => True) rfl ?_ trivial (fun R i hi hP hR => ?_)
  · simp [natOf_iv, repT, tI]
  have hln : (l.take i ++ List.replicate (l.length - i) 0).length = l.length := by simp; omega
  have e : cnt 1 (nxc [tI (l.take i ++ List.replicate (l.length - i) 0)] 0) = l.length := (cnt_tI _).trans hln
  simp only [e]
  refine prP_ltN (cndP_d (fun hlt => ?_) fun hge => ?_)
  · refine ixW_iv hlt (ldc_tI hlt (ixW_iv hlt (stc_tI (by omega) (prP_inc (by omega) ?_))))
    have := hR hlt trivial
    have e2 : (l.take i ++ List.replicate (l.length - i) 0).set i l[i] = l.take (i + 1) ++ List.replicate (l.length - (i + 1)) 0 := by
      have hml : (l.take i).length = i := by simp; omega
      obtain ⟨k, hk⟩ : ∃ k, l.length - i = k + 1 := ⟨l.length - i - 1, by omega⟩
      rw [List.set_append_right _ _ (by omega), hml, Nat.sub_self, hk, List.replicate_succ, List.set_cons_zero, List.take_succ_eq_append_getElem hlt, show l.length - (i + 1) = k by omega, List.append_assoc]
      rfl
    rw [e2]
    exact this
  · have hi' : i = l.length := by omega
    subst hi'
    show K [] [tI (l.take l.length ++ List.replicate (l.length - l.length) 0)]
    rw [List.take_length, Nat.sub_self, List.replicate_zero, List.append_nil]; exact h
theorem loopP_wf {α : Type} {F : J2 → J2} {xs0 : List Value} {cs0 : List (List T)} (xs : α → List Value) (cs : α → List (List T)) (μ : α → Nat) (P : α → Prop) (a : α) (hx : xs0 = xs a) (hc : cs0 = cs a) (hP : P a)
    (h : ∀ (R : J2) a, P a → (∀ b, P b → μ b < μ a → R (xs b) (cs b)) → F R (xs a) (cs a)) : loopP F xs0 cs0 := by
  subst hx; subst hc
  intro R hR
  have : ∀ k a, μ a < k → P a → R (xs a) (cs a) := by
    intro k
    induction k with
    | zero => intro a hk _; omega
    | succ k ih => intro a hk hp; exact hR _ _ (h R a hp fun b hb hlt => ih b (by omega) hb)
  exact this _ a (Nat.lt_succ_self _) hP
theorem BA_ext {a b : ByteArray} (h : a.toList = b.toList) : a = b := by
  rw [ByteArray.toList_eq, ByteArray.toList_eq] at h
  exact ByteArray.ext (Array.ext' h)
theorem cndP_neS {a b : ByteArray} {p q : Prop} (h1 : a ≠ b → p) (h2 : a = b → q) : cndP (.bool !(a.toList == b.toList)) p q :=
  cndP_i (fun h => h1 (by rintro rfl; simp at h)) (fun h => h2 (BA_ext (by simpa using h)))
theorem laws_eqStringS_t {C : Ctx} {l m : List ByteArray} {K : J2} (hl : (l.length : Int) < 2 ^ 62) (h : K [.bool (decide (l = m))] []) : laws_eqStringS.txt C (tS l) (tS m) K := by
  unfold laws_eqStringS.txt
  simp only [cnt_tS]
  refine prP_neN (cndP_neN (fun hne => ?_) fun he => ?_)
  · rw [decide_eq_false (fun hh => hne (by rw [hh]))] at h; exact h
  · refine loopP_up (fun i => [iv i]) (fun _ => []) l.length (fun i => l.take i = m.take i) (fun R i hi hP hR => ?_) (i := 0) (Nat.zero_le _) (by simp)
    refine prP_ltN (cndP_d (fun hlt => ?_) fun hge => ?_)
    · have hlt' : i < m.length := he ▸ hlt
      refine ixW_iv hlt (ldc_tS hlt (ixW_iv hlt' (ldc_tS hlt' (prP_neqS (cndP_neS (fun hne => ?_) fun heq => ?_)))))
      · rw [decide_eq_false (fun hh => hne (by subst hh; rfl))] at h; exact h
      · exact prP_inc (by omega) (hR hlt (by rw [List.take_succ_eq_append_getElem hlt, List.take_succ_eq_append_getElem hlt', hP, heq]))
    · have : l = m := by
        rw [List.take_of_length_le (by omega), List.take_of_length_le (by omega)] at hP; exact hP
      rw [decide_eq_true this] at h; exact h
/-- What the size of a row of texts comes to. -/
def szS (n : Int) : List ByteArray → Int
  | l => l.foldl (fun r s => if r < 0 then r else r - s.size) (n - l.length)
theorem laws_szStringS_t {C : Ctx} {n : Int} {l : List ByteArray} {K : J2} (hl : (l.length : Int) < 2 ^ 63) (hs : ∀ s ∈ l, (s.size : Int) < 2 ^ 63) (hn : 0 ≤ n ∧ n ≤ 2 ^ 62) (h0 : K [I (-1)] []) (h1 : ∀ r, 0 ≤ r → r ≤ n → (l.length : Int) ≤ n → (∀ s ∈ l, (s.size : Int) ≤ n) → K [I r] []) : laws_szStringS.txt C (I n) (tS l) K := by
  unfold laws_szStringS.txt
  simp only [cnt_tS]
  refine prP_sub (b := Int.ofNat l.length) ⟨by simp only [Int.ofNat_eq_natCast]; omega, by simp only [Int.ofNat_eq_natCast]; omega⟩ (prP_lss (cndP_d (fun _ => h0) fun hge => ?_))
  simp only [Int.ofNat_eq_natCast] at hge
  refine loopP_wf (α := Int × Nat) (fun p => [I p.1, iv p.2]) (fun _ => []) (fun p => l.length - p.2) (fun p => 0 ≤ p.1 ∧ p.1 ≤ n ∧ p.2 ≤ l.length ∧ ∀ s ∈ l.take p.2, (s.size : Int) ≤ n) (n - l.length, 0) rfl rfl ⟨by omega, by simp only; omega, Nat.zero_le _, by simp⟩ (fun R p hp hR => ?_)
  obtain ⟨r, i⟩ := p
  obtain ⟨p1, p2, p3, p4⟩ := hp
  refine prP_ltN (cndP_d (fun hlt => ?_) fun hge => ?_)
  · have hsz := hs _ (List.getElem_mem hlt)
    refine ixW_iv hlt (ldc_tS hlt (prP_lnS (prP_sub ⟨by simp only at p1; omega, by simp only at p2; omega⟩ (prP_lss (cndP_d (fun _ => h0) fun hge => ?_)))))
    have hge : ¬ r - (l[i].size : Int) < 0 := hge
    refine prP_inc (by omega) (hR (r - l[i].size, i + 1) ⟨by simp only; omega, by simp only at p2 ⊢; omega, hlt, fun s hs => ?_⟩ (by simp only; omega))
    simp only [List.take_succ_eq_append_getElem hlt, List.mem_append, List.mem_singleton] at hs
    rcases hs with hs | rfl
    · exact p4 s hs
    · simp only at p2; omega
  · have : i = l.length := by simp only at p3; omega
    subst this
    exact h1 r p1 p2 (by omega) (by simpa using p4)
theorem laws_toStringS_t {C : Ctx} {l : List ByteArray} {K : J2} (hl : (l.length : Int) < 2 ^ 40) (h : K [] [tS l]) : laws_toStringS.txt C (tS l) K := by
  unfold laws_toStringS.txt
  simp only [cnt_tS]
  refine ⟨l.length, rfl, rfl, by omega, ?_⟩
  refine loopP_from (fun i => [iv i]) (fun i => [tS (l.take i ++ List.replicate (l.length - i) ⟨#[]⟩)]) l.length (fun _ => True) rfl ?_ trivial (fun R i hi hP hR => ?_)
  · simp [natOf_iv, repT, tS]
  have hln : (l.take i ++ List.replicate (l.length - i) (⟨#[]⟩ : ByteArray)).length = l.length := by simp; omega
  have e : cnt 1 (nxc [tS (l.take i ++ List.replicate (l.length - i) ⟨#[]⟩)] 0) = l.length := (cnt_tS _).trans hln
  simp only [e]
  refine prP_ltN (cndP_d (fun hlt => ?_) fun hge => ?_)
  · refine ixW_iv hlt (ldc_tS hlt (ixW_iv hlt (stc_tS (by omega) (prP_inc (by omega) ?_))))
    have := hR hlt trivial
    have e2 : (l.take i ++ List.replicate (l.length - i) (⟨#[]⟩ : ByteArray)).set i l[i] = l.take (i + 1) ++ List.replicate (l.length - (i + 1)) ⟨#[]⟩ := by
      have hml : (l.take i).length = i := by simp; omega
      obtain ⟨k, hk⟩ : ∃ k, l.length - i = k + 1 := ⟨l.length - i - 1, by omega⟩
      rw [List.set_append_right _ _ (by omega), hml, Nat.sub_self, hk, List.replicate_succ, List.set_cons_zero, List.take_succ_eq_append_getElem hlt, show l.length - (i + 1) = k by omega, List.append_assoc]
      rfl
    rw [e2]
    exact this
  · have hi' : i = l.length := by omega
    subst hi'
    show K [] [tS (l.take l.length ++ List.replicate (l.length - l.length) ⟨#[]⟩)]
    rw [List.take_length, Nat.sub_self, List.replicate_zero, List.append_nil]; exact h
/-- The digits of a number ahead of s. -/
def digs : Nat → Nat → ByteArray → ByteArray
  | 0, _, s => s
  | k + 1, n, s => if n = 0 then s else digs k (n / 10) (ByteArray.empty.push (UInt8.ofNat (48 + n % 10)) ++ s)
/-- The text that a mark is. -/
def mt (n : Int) : ByteArray := if n ≤ 0 then ⟨#[109, 48]⟩ else ⟨#[109]⟩ ++ digs 20 n.toNat ⟨#[]⟩
theorem laws_markText_t {C : Ctx} {n : Int} {K : J2} (hn : n < 2 ^ 63) (h : K [.string (mt n)] []) : laws_markText.txt C (I n) K := by
  unfold laws_markText.txt
  refine prP_leq (cndP_d (fun hle => ?_) fun hgt => ?_)
  · rw [mt, if_pos hle] at h; exact h
  · rw [mt, if_neg hgt] at h
    obtain ⟨m, rfl⟩ : ∃ m : Nat, n = m := ⟨n.toNat, by omega⟩
    refine loopP_wf (α := Nat × Nat × ByteArray) (fun p => [iv p.2.1, .string p.2.2]) (fun _ => []) (fun p => p.1) (fun p => p.2.1 < 10 ^ p.1 ∧ p.2.1 < 2 ^ 63 ∧ p.1 ≤ 20 ∧ p.2.2.size + p.1 ≤ 20 ∧ digs p.1 p.2.1 p.2.2 = digs 20 m ⟨#[]⟩) (20, m, ⟨#[]⟩) rfl rfl ⟨by simp only; omega, by simp only; omega, Nat.le_refl _, Nat.le_refl _, rfl⟩ (fun R p hp hR => ?_)
    obtain ⟨k, m', s⟩ := p
    obtain ⟨p1, p2, p3, p4, p5⟩ := hp
    simp only at p1 p2 p3 p4 p5
    refine prP_gtr (a := Int.ofNat m') (b := 0) (cndP_d (fun hlt => ?_) fun hge => ?_)
    · have hlt : 0 < m' := by simpa using hlt
      cases k with
      | zero => simp at p1; omega
      | succ k =>
        refine prP_some (v := .int .i64 ((Int.ofNat m').tmod 10)) rfl ?_
        refine prP_add (a := 48) (b := (Int.ofNat m').tmod 10) ?_ ?_
        · have h1 : (Int.ofNat m').tmod 10 = ((m' % 10 : Nat) : Int) := by simp [Int.tmod_eq_emod_of_nonneg]
          rw [h1]; constructor <;> omega
        · have h1 : (Int.ofNat m').tmod 10 = ((m' % 10 : Nat) : Int) := by simp [Int.tmod_eq_emod_of_nonneg]
          rw [h1]
          refine prP_some (v := .int .u8 (IntKind.u8.wrap (48 + ((m' % 10 : Nat) : Int)))) rfl ?_
          have h2 : IntKind.u8.wrap (48 + ((m' % 10 : Nat) : Int)) = ((48 + m' % 10 : Nat) : Int) := by rw [IntKind.wrap_u8]; omega
          rw [h2]
          refine prP_some (v := .string (ByteArray.empty.push (UInt8.ofNat (48 + m' % 10)))) rfl ?_
          refine prP_catS (by simp only [ByteArray.size_push, ByteArray.size_empty]; omega) ?_
          have h3 : (Int.ofNat m').tdiv 10 = ((m' / 10 : Nat) : Int) := rfl
          refine prP_some (v := .int .i64 (IntKind.i64.wrap ((Int.ofNat m').tdiv 10))) rfl ?_
          rw [h3, wrap_64 ⟨by omega, by omega⟩]
          refine hR (k, m' / 10, ByteArray.empty.push (UInt8.ofNat (48 + m' % 10)) ++ s) ⟨?_, by simp only; omega, by simp only; omega, ?_, ?_⟩ (Nat.lt_succ_self k)
          · simp only; rw [Nat.pow_succ] at p1; omega
          · simp only [ByteArray.size_append, ByteArray.size_push, ByteArray.size_empty]; omega
          · simp only
            rw [← p5, digs, if_neg (by omega)]
    · have hz : m' = 0 := by simpa using hge
      subst hz
      have h6 : (⟨#[109]⟩ : ByteArray).size = 1 := rfl
      have h7 : s.size < 2 ^ 62 := by omega
      refine prP_catS (by rw [h6]; show 1 + s.size < 2 ^ 63; omega) ?_
      have h4 : digs k 0 s = s := by cases k <;> rfl
      rw [h4] at p5
      rw [show (m : Int).toNat = m from Int.toNat_natCast m, ← p5] at h
      exact h
/-- What the marks make of a row of texts. -/
def marksS (n : Int) (k : Nat) : List ByteArray := (List.range k).map fun (i : Nat) => mt (n + i)
theorem laws_markStringS_t {w0 : World} {n : Int} {l : List ByteArray} {K : J2} (hl : (l.length : Int) < 2 ^ 62) (hn : 0 ≤ n ∧ n < 2 ^ 62) (h : K [I (n + l.length)] [tS (marksS n l.length)]) : laws_markStringS.txt ⟨Try.prog, w0⟩ (I n) (tS l) K := by
  unfold laws_markStringS.txt
  refine loopP_from (fun i => [I (n + i), iv i]) (fun i => [tS (marksS n i ++ l.drop i)]) l.length (fun _ => True) (by simp [iv_eq]) (by simp [marksS]) trivial (fun R i hi hP hR => ?_)
  have hln : (marksS n i ++ l.drop i).length = l.length := by simp [marksS]; omega
  have e : cnt 1 (nxc [tS (marksS n i ++ l.drop i)] 0) = l.length := (cnt_tS _).trans hln
  simp only [e]
  refine prP_ltN (cndP_d (fun hlt => ?_) fun hge => ?_)
  · refine laws_markText.cl2 (laws_markText_t (by omega) ?_)
    refine ixW_iv hlt (stc_tS (by omega) (prP_add (b := 1) ⟨by omega, by omega⟩ (prP_inc (by omega) ?_)))
    have := hR hlt trivial
    have e2 : (marksS n i ++ l.drop i).set i (mt (n + i)) = marksS n (i + 1) ++ l.drop (i + 1) := by
      have hml : (marksS n i).length = i := by simp [marksS]
      have hd : (l.drop i).set 0 (mt (n + i)) = mt (n + i) :: l.drop (i + 1) := by rw [List.drop_eq_getElem_cons hlt]; rfl
      rw [List.set_append_right _ _ (by omega), hml, Nat.sub_self, hd]
      simp [marksS, List.range_succ]
    rw [e2]
    simpa [Int.add_assoc] using this
  · have hi' : i = l.length := by omega
    subst hi'
    show K [I (n + l.length)] [tS (marksS n l.length ++ l.drop l.length)]
    rw [List.drop_length, List.append_nil]; exact h
theorem laws_heldStringS_t {w0 : World} {n : Int} {l : List ByteArray} {K : J2} (hl : (l.length : Int) < 2 ^ 62) (hn : 0 ≤ n ∧ n < 2 ^ 62) (h : K [I (if l = marksS n l.length then n + l.length else -1)] []) : laws_heldStringS.txt ⟨Try.prog, w0⟩ (I n) (tS l) K := by
  unfold laws_heldStringS.txt
  simp only [cnt_tS]
  refine loopP_from (fun i => [I (n + i), iv i]) (fun _ => []) l.length (fun i => ∀ j (hj : j < l.length), j < i → l[j] = mt (n + j)) (by simp [iv_eq]) rfl (by simp) (fun R i hi hP hR => ?_)
  refine prP_ltN (cndP_d (fun hlt => ?_) fun hge => ?_)
  · refine ixW_iv hlt (ldc_tS hlt (laws_markText.cl2 (laws_markText_t (by omega) (prP_neqS (cndP_neS (fun hne => ?_) fun heq => ?_)))))
    · rw [if_neg (fun hh => hne (by have := congrArg (·[i]?) hh; simpa [hlt, marksS] using this))] at h; exact h
    · refine prP_add (b := 1) ⟨by omega, by omega⟩ (prP_inc (by omega) ?_)
      have := hR hlt (fun j hj hji => by
        rcases Nat.lt_succ_iff_lt_or_eq.1 hji with h1 | h1
        · exact hP j hj h1
        · subst h1; exact heq)
      simpa [Int.add_assoc] using this
  · have hi' : i = l.length := by omega
    subst hi'
    rw [if_pos (List.ext_getElem (by simp [marksS]) fun j h1 h2 => by simpa [marksS] using hP j h1 h1)] at h
    exact h
/-! ### && and || -/
theorem gE_b {b : Bool} {q : Prop} (h : q) : gE (.bool b) q := ⟨rfl, h⟩
theorem gP_and {a b : Bool} {m : (Value → Prop) → Prop} {K : Value → Prop} (hm : a = true → ∀ K : Value → Prop, K (.bool b) → m K) (h : K (.bool (a && b))) : gP (.bool a) true m fun t => prP (pk (.bool a) t (.bool false)) K := by
  cases a
  · exact .inr ⟨.inl rfl, prP_some rfl h⟩
  · exact .inl ⟨rfl, hm rfl _ (prP_some rfl (by simpa using h))⟩
theorem gP_and2 {a b : Bool} {x : Value} {m1 : (Value → Prop) → Prop} {m2 : Value → (Value → Prop) → Prop} {K : Value → Prop} (h1 : a = true → ∀ K : Value → Prop, K x → m1 K) (h2 : a = true → ∀ K : Value → Prop, K (.bool b) → m2 x K) (h : K (.bool (a && b))) :
    gP (.bool a) true m1 fun x => gP (.bool a) true (m2 x) fun t => prP (pk (.bool a) t (.bool false)) K := by
  cases a
  · exact .inr ⟨.inl rfl, .inr ⟨.inl rfl, prP_some rfl h⟩⟩
  · exact .inl ⟨rfl, h1 rfl _ (.inl ⟨rfl, h2 rfl _ (prP_some rfl (by simpa using h))⟩)⟩
theorem gP_or {a b : Bool} {m : (Value → Prop) → Prop} {K : Value → Prop} (hm : a = false → ∀ K : Value → Prop, K (.bool b) → m K) (h : K (.bool (a || b))) : gP (.bool a) false m fun t => prP (pk (.bool a) (.bool true) t) K := by
  cases a
  · exact .inl ⟨rfl, hm rfl _ (prP_some rfl (by simpa using h))⟩
  · exact .inr ⟨.inl rfl, prP_some rfl h⟩
theorem gP_orN {a b : Bool} {m : (Value → Prop) → Prop} {K : Value → Prop} (hm : a = false → ∀ K : Value → Prop, K (.bool b) → m K) (h : K (.bool (a || !b))) : gP (.bool a) false m fun t => gP (.bool a) false (prP (un .not t)) fun t => prP (pk (.bool a) (.bool true) t) K := by
  cases a
  · exact .inl ⟨rfl, hm rfl _ (.inl ⟨rfl, prP_not (prP_some rfl (by simpa using h))⟩)⟩
  · exact .inr ⟨.inl rfl, .inr ⟨.inl rfl, prP_some rfl h⟩⟩
/-! ### Numbers in bounds -/
def inB (n lo hi : Int) : Bool := decide (n ≥ lo) && decide (n ≤ hi)
theorem spec_l1In_t {C : Ctx} {n lo hi : Int} {K : J2} (h : K [.bool (inB n lo hi)] []) : spec_l1In.txt C (I n) (I lo) (I hi) K :=
  prP_geq (gE_b (gE_b (gP_and (fun _ K hk => prP_leq hk) h)))
theorem impl_in_t {C : Ctx} {n lo hi : Int} {K : J2} (h : K [.bool (inB n lo hi)] []) : impl_in.txt C (I n) (I lo) (I hi) K :=
  prP_geq (gE_b (gE_b (gP_and (fun _ K hk => prP_leq hk) h)))
theorem spec_l1In_c {w0 : World} {n lo hi : Int} {K : J2} (h : K [.bool (inB n lo hi)] []) : cl2 ⟨Try.prog, w0⟩ 144 spec_l1In.sg [I n, I lo, I hi] [] K := spec_l1In.cl2 (spec_l1In_t h)
theorem impl_in_c {w0 : World} {n lo hi : Int} {K : J2} (h : K [.bool (inB n lo hi)] []) : cl2 ⟨Try.prog, w0⟩ 147 impl_in.sg [I n, I lo, I hi] [] K := impl_in.cl2 (impl_in_t h)
def argB (n : Int) : Bool := inB n (-1000000000) 1000000000
theorem impl_isArg_c {w0 : World} {n : Int} {K : J2} (h : K [.bool (argB n)] []) : cl2 ⟨Try.prog, w0⟩ 109 impl_isArg.sg [I n] [] K := impl_isArg.cl2 (impl_in_c h)
def spkB (a b c d : Int) (s : ByteArray) : Bool := (((argB a && argB b) && argB c) && argB d) && decide ((s.size : Int) ≤ 8)
theorem spec_Speakable_c {w0 : World} {a b c d : Int} {s : ByteArray} {K : J2} (h : K [.bool (spkB a b c d s)] []) : cl2 ⟨Try.prog, w0⟩ 71 spec_Speakable.sg [I a, I b, I c, I d, .string s] [] K :=
  spec_Speakable.cl2 (spec_l1In_c (gE_b (gE_b (gP_and (fun _ K hk => spec_l1In_c hk) (gE_b (gE_b (gP_and (fun _ K hk => spec_l1In_c hk) (gE_b (gE_b (gP_and (fun _ K hk => spec_l1In_c hk) (gE_b (gE_b (gP_and2 (fun _ K hk => prP_lnS hk) (fun _ K hk => prP_leq hk) h)))))))))))))
theorem impl_Speakable_c {w0 : World} {a b c d : Int} {s : ByteArray} {K : J2} (h : K [.bool (spkB a b c d s)] []) : cl2 ⟨Try.prog, w0⟩ 48 impl_Speakable.sg [I a, I b, I c, I d, .string s] [] K :=
  impl_Speakable.cl2 (impl_isArg_c (gE_b (gE_b (gP_and (fun _ K hk => impl_isArg_c hk) (gE_b (gE_b (gP_and (fun _ K hk => impl_isArg_c hk) (gE_b (gE_b (gP_and (fun _ K hk => impl_isArg_c hk) (gE_b (gE_b (gP_and2 (fun _ K hk => prP_lnS hk) (fun _ K hk => prP_leq hk) h)))))))))))))
/-! ### Answers -/
def ansB (c v : Int) (l : List Int) : Bool := (inB c 0 6 && argB v && decide (l.length ≤ 8)) && l.all argB
theorem prP_gtN {a b : Nat} {K : Value → Prop} (h : K (.bool (decide (a > b)))) : prP (bnI .gtr (iv a) (iv b)) K := prP_gtr (a := Int.ofNat a) (b := Int.ofNat b) (by
  have : decide (Int.ofNat a > Int.ofNat b) = decide (a > b) := by simp
  rw [this]; exact h)
theorem prP_leN {a b : Nat} {K : Value → Prop} (h : K (.bool (decide (a ≤ b)))) : prP (bnI .leq (iv a) (iv b)) K := prP_leq (a := Int.ofNat a) (b := Int.ofNat b) (by
  have : decide (Int.ofNat a ≤ Int.ofNat b) = decide (a ≤ b) := by simp
  rw [this]; exact h)
theorem all_take {l : List Int} {i : Nat} (hi : i < l.length) (p : Int → Bool) : (l.take (i + 1)).all p = ((l.take i).all p && p l[i]) := by
  rw [List.take_succ_eq_append_getElem hi]; simp only [List.all_append, List.all_cons, List.all_nil, Bool.and_true]
theorem spec_l10AnswerOk_c {w0 : World} {c v : Int} {l : List Int} {K : J2} (hl : (l.length : Int) < 2 ^ 62) (h : K [.bool (ansB c v l)] []) : cl2 ⟨Try.prog, w0⟩ 72 spec_l10AnswerOk.sg [I c, I v] [tI l] K := by
  refine spec_l10AnswerOk.cl2 ?_
  unfold spec_l10AnswerOk.txt
  simp only [cnt_tI]
  refine spec_l1In_c (prP_not (gE_b (gE_b (gP_orN (fun _ K hk => spec_l1In_c hk) (gE_b (gE_b (gE_b (gP_or (fun _ K hk => prP_gtN (b := 8) hk) (cndP_i (fun hb => ?_) fun hb => ?_)))))))))
  · have : ansB c v l = false := by
      unfold ansB argB
      revert hb
      cases inB c 0 6 <;> cases inB v (-1000000000) 1000000000 <;> simp
      intro h1 h2; omega
    rw [this] at h; exact h
  · have hh : (inB c 0 6 && argB v && decide (l.length ≤ 8)) = true := by
      unfold argB
      revert hb
      cases inB c 0 6 <;> cases inB v (-1000000000) 1000000000 <;> simp
    refine loopP_from (fun i => [iv i, I c, I v]) (fun _ => []) l.length (fun i => (l.take i).all argB = true) rfl rfl rfl (fun R i hi hP hR => ?_)
    refine prP_ltN (cndP_d (fun hlt => ?_) fun hge => ?_)
    · refine ixW_iv hlt (ldc_tI hlt (spec_l1In_c (prP_not (cndP_i (fun hb => ?_) fun hb => ?_))))
      · have : l.all argB = false := by
          rw [List.all_eq_false]; exact ⟨l[i], List.getElem_mem hlt, by unfold argB; simpa using hb⟩
        rw [ansB, hh, this] at h; exact h
      · exact prP_inc (by omega) (hR hlt (by rw [all_take hlt, hP]; unfold argB; simpa using hb))
    · have : i = l.length := by omega
      subst this
      rw [List.take_length] at hP
      rw [ansB, hh, hP] at h; exact h
theorem impl_answerable_c {w0 : World} {c v : Int} {l : List Int} {K : J2} (hl : (l.length : Int) < 2 ^ 62) (h : K [.bool (ansB c v l)] []) : cl2 ⟨Try.prog, w0⟩ 80 impl_answerable.sg [I c, I v] [tI l] K := by
  refine impl_answerable.cl2 ?_
  unfold impl_answerable.txt
  simp only [cnt_tI]
  refine loopP_from (fun i => [iv l.length, iv i, I c, I v]) (fun _ => []) l.length (fun i => (l.take i).all argB = true) rfl rfl rfl (fun R i hi hP hR => ?_)
  refine prP_ltN (cndP_d (fun hlt => ?_) fun hge => ?_)
  · refine ixW_iv hlt (ldc_tI hlt (impl_isArg_c (prP_not (cndP_i (fun hb => ?_) fun hb => ?_))))
    · have : l.all argB = false := by
        rw [List.all_eq_false]; exact ⟨l[i], List.getElem_mem hlt, by simpa using hb⟩
      rw [ansB, this, Bool.and_false] at h; exact h
    · exact prP_inc (by omega) (hR hlt (by rw [all_take hlt, hP]; simpa using hb))
  · have : i = l.length := by omega
    subst this
    rw [List.take_length] at hP
    refine impl_in_c (gE_b (gE_b (gP_and (fun _ K hk => impl_isArg_c hk) (gE_b (gE_b (gE_b (gP_and (fun _ K hk => prP_leN (b := 8) hk) ?_)))))))
    rw [ansB, hP, Bool.and_true] at h; exact h
def tB (l : List Nat) : List T := l.map fun (b : Nat) => .c (.int .u8 (b : Int))
def bytesL (l : List Nat) : ByteArray := l.foldl (fun b n => b.push (UInt8.ofNat n)) ByteArray.empty
theorem b2T_tB (l : List Nat) : b2T (tB l) = some (.string (bytesL l)) := by
  have h1 : (tB l).all isByteT = true := by simp [tB, isByteT]
  have h2 : ∀ (l : List Nat) (b : ByteArray), (tB l).foldl pushT b = l.foldl (fun b n => b.push (UInt8.ofNat n)) b := by
    intro l
    induction l with
    | nil => intro b; rfl
    | cons a l ih => intro b; exact ih _
  simp only [b2T, h1, if_true, h2]; rfl
theorem bytesL_size (l : List Nat) : (bytesL l).size = l.length := by
  have : ∀ (l : List Nat) (b : ByteArray), (l.foldl (fun b n => b.push (UInt8.ofNat n)) b).size = b.size + l.length := by
    intro l
    induction l with
    | nil => intro b; rfl
    | cons a l ih => intro b; rw [List.foldl_cons, ih, ByteArray.size_push, List.length_cons]; omega
  rw [bytesL, this]; simp
/-- A number in sevens of bits. -/
def vd : Nat → Nat → List Nat
  | 0, n => [n]
  | k + 1, n => if n ≥ 128 then (128 + n % 128) :: vd k (n / 128) else [n]
theorem vd_len : ∀ k n, (vd k n).length ≤ k + 1
  | 0, n => by simp [vd]
  | k + 1, n => by
    unfold vd; split
    · have := vd_len k (n / 128); simp only [List.length_cons]; omega
    · simp
def V (n : Int) : ByteArray := if inB n 0 562949953421311 then bytesL (vd 6 n.toNat) else ⟨#[]⟩
theorem V_size (n : Int) : (V n).size ≤ 7 := by
  unfold V; split
  · rw [bytesL_size]; exact vd_len 6 _
  · exact Nat.zero_le _
theorem flat_tB1 {n : Value} : flat [T.c n] = true := rfl
theorem cnt_tB (l : List Nat) : cnt 1 (tB l) = l.length := by simp [cnt, tB]
theorem apW_i {c : List T} {n m b : Nat} {q : Prop} (hf : flat c = true) (hn : (n + m) * b ≤ 2 ^ 47) (h : q) : apW c true n m b q := ⟨fun _ => hf, hn, h⟩
theorem spec_Var_c {w0 : World} {n : Int} {K : J2} (hn : F64 n) (h : K [.string (V n)] []) : cl2 ⟨Try.prog, w0⟩ 76 spec_Var.sg [I n] [] K := by
  refine spec_Var.cl2 ?_
  unfold spec_Var.txt
  refine spec_l1In_c (prP_not (cndP_i (fun hb => ?_) fun hb => ?_))
  · have hb : inB n 0 562949953421311 = false := by simpa using hb
    rw [V, hb] at h; exact h
  · have hb : inB n 0 562949953421311 = true := by simpa using hb
    rw [V, if_pos hb] at h
    unfold inB at hb
    simp only [Bool.and_eq_true, decide_eq_true_eq] at hb
    obtain ⟨m, rfl⟩ : ∃ m : Nat, n = m := ⟨n.toNat, by omega⟩
    rw [Int.toNat_natCast] at h
    refine loopP_wf (α := Nat × Nat × List Nat) (fun p => [iv p.2.1]) (fun p => [tB p.2.2]) (fun p => p.1) (fun p => p.2.1 < 128 ^ (p.1 + 1) ∧ p.2.1 < 2 ^ 62 ∧ p.2.2.length + p.1 ≤ 6 ∧ p.2.2 ++ vd p.1 p.2.1 = vd 6 m) (6, m, []) rfl rfl ⟨by simp only; omega, by simp only; omega, by simp, rfl⟩ (fun R p hp hR => ?_)
    obtain ⟨k, m', l⟩ := p
    obtain ⟨p1, p2, p3, p4⟩ := hp
    simp only at p1 p2 p3 p4
    have hcn : cnt 1 (nxc [tB l] 0) = l.length := cnt_tB l
    simp only [hcn]
    refine prP_geq (a := Int.ofNat m') (b := 128) (cndP_d (fun hge => ?_) fun hlt => ?_)
    · have hge : 128 ≤ m' := by simp at hge; omega
      cases k with
      | zero => simp at p1; omega
      | succ k =>
        have h1 : (Int.ofNat m').tmod 128 = ((m' % 128 : Nat) : Int) := by simp [Int.tmod_eq_emod_of_nonneg]
        refine prP_some (v := .int .i64 ((Int.ofNat m').tmod 128)) rfl ?_
        rw [h1]
        refine prP_add (a := 128) ⟨by omega, by omega⟩ ?_
        refine prP_some (v := .int .u8 (IntKind.u8.wrap (128 + ((m' % 128 : Nat) : Int)))) rfl ?_
        have h2 : IntKind.u8.wrap (128 + ((m' % 128 : Nat) : Int)) = ((128 + m' % 128 : Nat) : Int) := by rw [IntKind.wrap_u8]; omega
        rw [h2]
        refine apW_i rfl (by simp [cnt]; omega) ?_
        have h3 : (Int.ofNat m').tdiv 128 = ((m' / 128 : Nat) : Int) := rfl
        refine prP_some (v := .int .i64 (IntKind.i64.wrap ((Int.ofNat m').tdiv 128))) rfl ?_
        rw [h3, wrap_64 ⟨by omega, by omega⟩]
        have := hR (k, m' / 128, l ++ [128 + m' % 128]) ⟨by simp only; rw [Nat.pow_succ] at p1; omega, by simp only; omega, by simp; omega, by simp only; rw [← p4, vd, if_pos hge]; simp⟩ (Nat.lt_succ_self k)
        have e9 : tB (l ++ [128 + m' % 128]) = tB l ++ [T.c (.int .u8 ((128 + m' % 128 : Nat) : Int))] := by simp [tB]
        show R [iv (m' / 128)] [tB l ++ [T.c (.int .u8 ((128 + m' % 128 : Nat) : Int))]]
        rw [← e9]; exact this
    · have hlt : m' < 128 := by simp at hlt; omega
      refine prP_some (v := .int .u8 (IntKind.u8.wrap (Int.ofNat m'))) rfl ?_
      have h2 : IntKind.u8.wrap (Int.ofNat m') = (m' : Int) := by rw [IntKind.wrap_u8]; simp only [Int.ofNat_eq_natCast]; omega
      rw [h2]
      refine apW_i rfl (by simp [cnt]; omega) ?_
      have h4 : vd k m' = [m'] := by cases k with | zero => rfl | succ k => rw [vd, if_neg (by omega)]
      have h5 : nxc [tB l] 0 ++ [T.c (.int .u8 (m' : Int))] = tB (vd 6 m) := by rw [← p4, h4]; simp [tB, nxc]
      rw [h5, b2T_tB]
      exact prP_some rfl h
theorem impl_Var_c {w0 : World} {n : Int} {K : J2} (hn : F64 n) (h : K [.string (V n)] []) : cl2 ⟨Try.prog, w0⟩ 84 impl_Var.sg [I n] [] K := by
  refine impl_Var.cl2 ?_
  unfold impl_Var.txt
  refine impl_in_c (prP_not (cndP_i (fun hb => ?_) fun hb => ?_))
  · have hb : inB n 0 562949953421311 = false := by simpa using hb
    rw [V, hb] at h; exact h
  · have hb : inB n 0 562949953421311 = true := by simpa using hb
    rw [V, if_pos hb] at h
    unfold inB at hb
    simp only [Bool.and_eq_true, decide_eq_true_eq] at hb
    obtain ⟨m, rfl⟩ : ∃ m : Nat, n = m := ⟨n.toNat, by omega⟩
    rw [Int.toNat_natCast] at h
    refine loopP_wf (α := Nat × Nat × List Nat) (fun p => [iv p.2.1]) (fun p => [tB p.2.2]) (fun p => p.1) (fun p => p.2.1 < 128 ^ (p.1 + 1) ∧ p.2.1 < 2 ^ 62 ∧ p.2.2.length + p.1 ≤ 6 ∧ p.2.2 ++ vd p.1 p.2.1 = vd 6 m) (6, m, []) rfl rfl ⟨by simp only; omega, by simp only; omega, by simp, rfl⟩ (fun R p hp hR => ?_)
    obtain ⟨k, m', l⟩ := p
    obtain ⟨p1, p2, p3, p4⟩ := hp
    simp only at p1 p2 p3 p4
    have hcn : cnt 1 (nxc [tB l] 0) = l.length := cnt_tB l
    simp only [hcn]
    refine prP_gtr (a := Int.ofNat m') (b := 127) (cndP_d (fun hge => ?_) fun hlt => ?_)
    · have hge : 128 ≤ m' := by simp at hge; omega
      cases k with
      | zero => simp at p1; omega
      | succ k =>
        have h1 : (Int.ofNat m').tmod 128 = ((m' % 128 : Nat) : Int) := by simp [Int.tmod_eq_emod_of_nonneg]
        refine prP_some (v := .int .i64 ((Int.ofNat m').tmod 128)) rfl ?_
        rw [h1]
        refine prP_add (b := 128) ⟨by omega, by omega⟩ ?_
        refine prP_some (v := .int .u8 (IntKind.u8.wrap (((m' % 128 : Nat) : Int) + 128))) rfl ?_
        have h2 : IntKind.u8.wrap (((m' % 128 : Nat) : Int) + 128) = ((128 + m' % 128 : Nat) : Int) := by rw [IntKind.wrap_u8]; omega
        rw [h2]
        refine apW_i rfl (by simp [cnt]; omega) ?_
        have h3 : (Int.ofNat m').tdiv 128 = ((m' / 128 : Nat) : Int) := rfl
        refine prP_some (v := .int .i64 (IntKind.i64.wrap ((Int.ofNat m').tdiv 128))) rfl ?_
        rw [h3, wrap_64 ⟨by omega, by omega⟩]
        have := hR (k, m' / 128, l ++ [128 + m' % 128]) ⟨by simp only; rw [Nat.pow_succ] at p1; omega, by simp only; omega, by simp; omega, by simp only; rw [← p4, vd, if_pos hge]; simp⟩ (Nat.lt_succ_self k)
        have e9 : tB (l ++ [128 + m' % 128]) = tB l ++ [T.c (.int .u8 ((128 + m' % 128 : Nat) : Int))] := by simp [tB]
        show R [iv (m' / 128)] [tB l ++ [T.c (.int .u8 ((128 + m' % 128 : Nat) : Int))]]
        rw [← e9]; exact this
    · have hlt : m' < 128 := by simp at hlt; omega
      refine prP_some (v := .int .u8 (IntKind.u8.wrap (Int.ofNat m'))) rfl ?_
      have h2 : IntKind.u8.wrap (Int.ofNat m') = (m' : Int) := by rw [IntKind.wrap_u8]; simp only [Int.ofNat_eq_natCast]; omega
      rw [h2]
      refine apW_i rfl (by simp [cnt]; omega) ?_
      have h4 : vd k m' = [m'] := by cases k with | zero => rfl | succ k => rw [vd, if_neg (by omega)]
      have h5 : nxc [tB l] 0 ++ [T.c (.int .u8 (m' : Int))] = tB (vd 6 m) := by rw [← p4, h4]; simp [tB, nxc]
      rw [h5, b2T_tB]
      exact prP_some rfl h
def zg (n : Int) : Int := if inB n (-100000000000000) 100000000000000 then (if n < 0 then -2 * n - 1 else 2 * n) else -1
theorem inB_iff {n lo hi : Int} : inB n lo hi = true ↔ lo ≤ n ∧ n ≤ hi := by simp [inB]
theorem zg_fits (n : Int) : F64 (zg n) := by
  unfold zg; split
  · rename_i h; rw [inB_iff] at h
    split <;> constructor <;> omega
  · constructor <;> omega
theorem spec_Zig_c {w0 : World} {n : Int} {K : J2} (h : K [I (zg n)] []) : cl2 ⟨Try.prog, w0⟩ 146 spec_Zig.sg [I n] [] K := by
  refine spec_Zig.cl2 (spec_l1In_c (prP_not (cndP_i (fun hb => ?_) fun hb => ?_)))
  · have hb : inB n (-100000000000000) 100000000000000 = false := by simpa using hb
    rw [zg, hb] at h; exact h
  · have hb : inB n (-100000000000000) 100000000000000 = true := by simpa using hb
    rw [zg, if_pos hb] at h
    rw [inB_iff] at hb
    refine prP_lss (cndP_d (fun hl => ?_) fun hl => ?_)
    · rw [if_pos hl] at h
      exact prP_mul (a := -2) ⟨by omega, by omega⟩ (prP_sub (b := 1) ⟨by omega, by omega⟩ h)
    · rw [if_neg hl] at h
      exact prP_mul (a := 2) ⟨by omega, by omega⟩ h
theorem impl_Zig_c {w0 : World} {n : Int} {K : J2} (h : K [I (zg n)] []) : cl2 ⟨Try.prog, w0⟩ 149 impl_Zig.sg [I n] [] K := by
  refine impl_Zig.cl2 (impl_in_c (prP_not (cndP_i (fun hb => ?_) fun hb => ?_)))
  · have hb : inB n (-100000000000000) 100000000000000 = false := by simpa using hb
    rw [zg, hb] at h; exact h
  · have hb : inB n (-100000000000000) 100000000000000 = true := by simpa using hb
    rw [zg, if_pos hb] at h
    rw [inB_iff] at hb
    refine prP_lss (cndP_d (fun hl => ?_) fun hl => ?_)
    · rw [if_pos hl] at h
      exact prP_mul (a := -2) ⟨by omega, by omega⟩ (prP_sub (b := 1) ⟨by omega, by omega⟩ h)
    · rw [if_neg hl] at h
      exact prP_mul (a := 2) ⟨by omega, by omega⟩ h
def SI (n : Int) : ByteArray := V (zg n)
theorem spec_ShowInt_c {w0 : World} {n : Int} {K : J2} (h : K [.string (SI n)] []) : cl2 ⟨Try.prog, w0⟩ 75 spec_ShowInt.sg [I n] [] K := by
  refine spec_ShowInt.cl2 (spec_Zig_c (prP_lss (cndP_d (fun hl => ?_) fun hl => spec_Var_c (zg_fits n) h)))
  have : SI n = ⟨#[]⟩ := by
    have hb : inB (zg n) 0 562949953421311 = false := by
      cases hx : inB (zg n) 0 562949953421311
      · rfl
      · rw [inB_iff] at hx; omega
    rw [SI, V, hb]; rfl
  rw [this] at h; exact h
theorem impl_ShowInt_c {w0 : World} {n : Int} {K : J2} (h : K [.string (SI n)] []) : cl2 ⟨Try.prog, w0⟩ 82 impl_ShowInt.sg [I n] [] K :=
  impl_ShowInt.cl2 (impl_Zig_c (impl_Var_c (zg_fits n) h))
def ST (s : ByteArray) : ByteArray := if (s.size : Int) > 8 then ⟨#[]⟩ else V s.size ++ s
theorem spec_ShowText_c {w0 : World} {s : ByteArray} {K : J2} (h : K [.string (ST s)] []) : cl2 ⟨Try.prog, w0⟩ 145 spec_ShowText.sg [.string s] [] K := by
  refine spec_ShowText.cl2 (prP_lnS (prP_gtr (cndP_d (fun hl => ?_) fun hl => ?_)))
  · rw [ST, if_pos hl] at h; exact h
  · rw [ST, if_neg hl] at h
    have := V_size s.size
    exact prP_lnS (spec_Var_c ⟨by omega, by omega⟩ (prP_catS (by omega) h))
theorem impl_ShowText_c {w0 : World} {s : ByteArray} {K : J2} (h : K [.string (ST s)] []) : cl2 ⟨Try.prog, w0⟩ 85 impl_ShowText.sg [.string s] [] K := by
  refine impl_ShowText.cl2 (prP_lnS (prP_gtr (cndP_d (fun hl => ?_) fun hl => ?_)))
  · rw [ST, if_pos hl] at h; exact h
  · rw [ST, if_neg hl] at h
    have := V_size s.size
    exact prP_lnS (impl_Var_c ⟨by omega, by omega⟩ (prP_catS (by omega) h))
theorem ST_size (s : ByteArray) : (ST s).size ≤ 15 := by
  unfold ST; split
  · exact Nat.zero_le _
  · have := V_size s.size
    rw [ByteArray.size_append]; omega
/-! ### The texts of a pen -/
theorem cndP_eqS {a b : ByteArray} {p q : Prop} (h1 : a = b → p) (h2 : a ≠ b → q) : cndP (.bool (a.toList == b.toList)) p q :=
  cndP_i (fun h => h1 (BA_ext (by simpa using h))) (fun h => h2 (by rintro rfl; simp at h))
instance : LawfulBEq ByteArray where
  eq_of_beq {a b} h := by
    cases a; cases b
    have h : _ == _ := h
    first | exact congrArg _ (eq_of_beq h) | (simp [BEq.beq, instBEqByteArray.beq] at h; simpa using h) | (simp_all)
  rfl {a} := by
    cases a
    first | exact beq_self_eq_true (α := Array UInt8) _ | (show ByteArray.beq _ _ = true; unfold ByteArray.beq; simp) | (simp [BEq.beq, ByteArray.beq])
/-- Where a text stands. -/
def at_ (l : List ByteArray) (s : ByteArray) : Int := if s ∈ l then (l.idxOf s : Int) else -1
theorem notin_take {l : List ByteArray} {s : ByteArray} {i : Nat} (hi : i < l.length) (h1 : s ∉ l.take i) (h2 : l[i] ≠ s) : s ∉ l.take (i + 1) := by
  rw [List.take_succ_eq_append_getElem hi]
  simp only [List.mem_append, List.mem_singleton, not_or]
  exact ⟨h1, fun h => h2 h.symm⟩
theorem at_here {l : List ByteArray} {s : ByteArray} {i : Nat} (hi : i < l.length) (h1 : s ∉ l.take i) (h2 : l[i] = s) : at_ l s = i := by
  have hm : s ∈ l := h2 ▸ List.getElem_mem hi
  rw [at_, if_pos hm]
  have e : l = l.take i ++ l[i] :: l.drop (i + 1) := by rw [← List.drop_eq_getElem_cons hi, List.take_append_drop]
  have hx : l.idxOf s = i := by
    rw [e, List.idxOf_append, if_neg h1, h2, List.idxOf_cons_self]
    simp; omega
  rw [hx]
theorem impl_textAt_c {w0 : World} {s : ByteArray} {l : List ByteArray} {K : J2} (hl : (l.length : Int) < 2 ^ 62) (h : K [I (at_ l s)] []) : cl2 ⟨Try.prog, w0⟩ 83 impl_textAt.sg [.string s] [tS l] K := by
  refine impl_textAt.cl2 ?_
  unfold impl_textAt.txt
  simp only [cnt_tS]
  refine loopP_from (fun i => [.string s, iv l.length, iv i]) (fun _ => []) l.length (fun i => s ∉ l.take i) rfl rfl (by simp) (fun R i hi hP hR => ?_)
  refine prP_ltN (cndP_d (fun hlt => ?_) fun hge => ?_)
  · refine ixW_iv hlt (ldc_tS hlt (prP_eqlS (cndP_eqS (fun he => ?_) fun hne => ?_)))
    · rw [at_here hlt hP he] at h; exact h
    · exact prP_inc (by omega) (hR hlt (notin_take hlt hP hne))
  · have : i = l.length := by omega
    subst this
    rw [List.take_length] at hP
    rw [at_, if_neg hP] at h; exact h
theorem impl_hasText_c {w0 : World} {s : ByteArray} {l : List ByteArray} {K : J2} (hl : (l.length : Int) < 2 ^ 62) (h : K [.bool (decide (s ∈ l))] []) : cl2 ⟨Try.prog, w0⟩ 148 impl_hasText.sg [.string s] [tS l] K := by
  refine impl_hasText.cl2 (impl_textAt_c hl (prP_geq ?_))
  have : decide (at_ l s ≥ 0) = decide (s ∈ l) := by
    by_cases hm : s ∈ l <;> simp [at_, hm]
  rw [this]; exact h
theorem flat_tS (l : List ByteArray) : flat (tS l) = true := by simp [flat, tS, isC]
theorem impl_copyPen_c {w0 : World} {n : Value} {l : List ByteArray} {K : J2} (hl : l.length ≤ 2 ^ 40) (h : K [n] [tS l]) : cl2 ⟨Try.prog, w0⟩ 79 impl_copyPen.sg [n] [tS l] K := by
  refine impl_copyPen.cl2 (impl_copyTexts.cl2 (apW_i (flat_tS l) (by rw [cnt_tS]; omega) ?_))
  exact h
def szB (s : ByteArray) : Bool := decide ((s.size : Int) ≤ 8)
def goodT (l : List ByteArray) : Bool := l.all szB && decide l.Nodup
def penB (n : Int) (l : List ByteArray) : Bool := (argB n && decide (l.length ≤ 400)) && goodT l
theorem good_take {l : List ByteArray} {i : Nat} (hi : i < l.length) : goodT (l.take (i + 1)) = true ↔ goodT (l.take i) = true ∧ szB l[i] = true ∧ l[i] ∉ l.take i := by
  rw [List.take_succ_eq_append_getElem hi]
  simp only [goodT, Bool.and_eq_true, decide_eq_true_eq, List.all_append, List.all_cons, List.all_nil, Bool.and_true, List.nodup_append, List.nodup_cons, List.not_mem_nil, not_false_eq_true, List.nodup_nil, and_true, true_and, List.mem_singleton]
  constructor
  · rintro ⟨⟨h1, h2⟩, h3, h4⟩
    exact ⟨⟨h1, h3⟩, h2, fun hm => h4 _ hm _ rfl rfl⟩
  · rintro ⟨⟨h1, h2⟩, h3, h4⟩
    exact ⟨⟨h1, h3⟩, h2, fun a ha b hb he => h4 (by rw [← hb, ← he]; exact ha)⟩
theorem good_bad {l : List ByteArray} {i : Nat} (hi : i < l.length) (h : szB l[i] = false ∨ l[i] ∈ l.take i) : goodT l = false := by
  cases hg : goodT l
  · rfl
  · exfalso
    have : goodT (l.take (i + 1)) = true := by
      simp only [goodT, Bool.and_eq_true, decide_eq_true_eq] at hg ⊢
      refine ⟨?_, hg.2.sublist (List.take_sublist _ _)⟩
      rw [List.all_eq_true] at hg ⊢
      exact fun x hx => hg.1 x (List.mem_of_mem_take hx)
    obtain ⟨_, h1, h2⟩ := (good_take hi).1 this
    rcases h with h | h
    · rw [h] at h1; cases h1
    · exact h2 h
theorem spec_l10PenOk_c {w0 : World} {n : Int} {l : List ByteArray} {K : J2} (hl : (l.length : Int) < 2 ^ 62) (h : K [.bool (penB n l)] []) : cl2 ⟨Try.prog, w0⟩ 73 spec_l10PenOk.sg [I n] [tS l] K := by
  refine spec_l10PenOk.cl2 ?_
  unfold spec_l10PenOk.txt
  simp only [cnt_tS]
  refine loopP_from (fun i => [iv i, I n]) (fun _ => []) l.length (fun i => goodT (l.take i) = true) rfl rfl (by simp [goodT]) (fun R i hi hP hR => ?_)
  refine prP_ltN (cndP_d (fun hlt => ?_) fun hge => ?_)
  · refine ixW_iv hlt (ldc_tS hlt (prP_lnS (prP_gtr (b := 8) (cndP_d (fun hb => ?_) fun hb => ?_))))
    · have : goodT l = false := good_bad hlt (.inl (by simp [szB]; omega))
      rw [penB, this, Bool.and_false] at h; exact h
    · have hs : szB l[i] = true := by simp [szB]; omega
      refine loopP_from (fun j => [iv i, iv j, I n]) (fun _ => []) i (fun j => l[i] ∉ l.take j) rfl rfl (by simp) (fun R2 j hj hP2 hR2 => ?_)
      refine prP_ltN (cndP_d (fun hlt2 => ?_) fun hge2 => ?_)
      · have hjl : j < l.length := by omega
        refine ixW_iv hjl (ldc_tS hjl (ixW_iv hlt (ldc_tS hlt (prP_eqlS (cndP_eqS (fun he => ?_) fun hne => ?_)))))
        · have : goodT l = false := good_bad hlt (.inr (by rw [← he]; exact List.mem_take_iff_getElem.2 ⟨j, by omega, rfl⟩))
          rw [penB, this, Bool.and_false] at h; exact h
        · exact prP_inc (by omega) (hR2 hlt2 (notin_take hjl hP2 hne))
      · have : j = i := by omega
        subst this
        exact prP_inc (by omega) (hR hlt ((good_take hlt).2 ⟨hP, hs, hP2⟩))
  · have : i = l.length := by omega
    subst this
    rw [List.take_length] at hP
    refine spec_l1In_c (gE_b (gE_b (gE_b (gP_and (fun _ K hk => prP_leN (b := 400) hk) ?_))))
    rw [penB, hP, Bool.and_true] at h; exact h
theorem scW_to {n i : Nat} (hi : i ≤ n) {K : Value → Value → Prop} (h : K (iv 0) (iv i)) : scW n none (some (iv i)) K :=
  ⟨0, i, rfl, by simp [bnd, iv], Nat.zero_le _, hi, h⟩
theorem gP_or2 {a b : Bool} {x : Value} {m1 : (Value → Prop) → Prop} {m2 : Value → (Value → Prop) → Prop} {K : Value → Prop} (h1 : a = false → ∀ K : Value → Prop, K x → m1 K) (h2 : a = false → ∀ K : Value → Prop, K (.bool b) → m2 x K) (h : K (.bool (a || b))) :
    gP (.bool a) false m1 fun x => gE (.bool a) (gP (.bool a) false (m2 x) fun t => prP (pk (.bool a) (.bool true) t) K) := by
  cases a
  · exact .inl ⟨rfl, h1 rfl _ (gE_b (.inl ⟨rfl, h2 rfl _ (prP_some rfl (by simpa using h))⟩))⟩
  · exact .inr ⟨.inl rfl, gE_b (.inr ⟨.inl rfl, prP_some rfl h⟩)⟩
theorem impl_penOk_c {w0 : World} {n : Int} {l : List ByteArray} {K : J2} (hl : (l.length : Int) < 2 ^ 62) (h : K [.bool (penB n l)] []) : cl2 ⟨Try.prog, w0⟩ 81 impl_penOk.sg [I n] [tS l] K := by
  refine impl_penOk.cl2 ?_
  unfold impl_penOk.txt
  simp only [cnt_tS]
  refine loopP_from (fun i => [iv l.length, iv i, I n]) (fun _ => []) l.length (fun i => goodT (l.take i) = true) rfl rfl (by simp [goodT]) (fun R i hi hP hR => ?_)
  refine prP_ltN (cndP_d (fun hlt => ?_) fun hge => ?_)
  · refine ixW_iv hlt (ldc_tS hlt (prP_lnS (prP_gtr (b := 8) (gE_b (gE_b (gE_b (gP_or2 (x := two (iv 0) (iv i)) (b := decide (l[i] ∈ l.take i)) (fun _ K hk => scW_to hi hk) (fun _ K hk => ?_) ?_)))))))
    · have e : sub2 (tS l) [] (natOf (fst2 (two (iv 0) (iv i))) * 1) (natOf (snd2 (two (iv 0) (iv i))) * 1) = tS (l.take i) := by
        have h1 : natOf (fst2 (two (iv 0) (iv i))) = 0 := rfl
        have h2 : natOf (snd2 (two (iv 0) (iv i))) = i := natOf_iv i
        rw [h1, h2]; simp [sub2, node, tS, List.map_take]
      rw [e]
      exact impl_hasText_c (by simp; omega) hk
    · refine cndP_i (fun hb => ?_) fun hb => ?_
      · have : goodT l = false := good_bad hlt (by
          rw [Bool.or_eq_true, decide_eq_true_eq, decide_eq_true_eq] at hb
          exact hb.imp (fun h => by simp [szB]; omega) id)
        rw [penB, this, Bool.and_false] at h; exact h
      · rw [Bool.or_eq_false_iff, decide_eq_false_iff_not, decide_eq_false_iff_not] at hb
        exact prP_inc (by omega) (hR hlt ((good_take hlt).2 ⟨hP, by simp [szB]; omega, hb.2⟩))
  · have : i = l.length := by omega
    subst this
    rw [List.take_length] at hP
    refine impl_isArg_c (gE_b (gE_b (gE_b (gP_and (fun _ K hk => prP_leN (b := 400) hk) ?_))))
    rw [penB, hP, Bool.and_true] at h; exact h
def siteB (l : List ByteArray) (s : ByteArray) : ByteArray := if s ∈ l then V (at_ l s + 1) else V 0 ++ ST s
def penT (l : List ByteArray) (s : ByteArray) : List ByteArray := if s ∈ l then l else l ++ [s]
theorem spec_l10Site_c {w0 : World} {n : Value} {l : List ByteArray} {s : ByteArray} {K : J2} (hl : l.length < 2 ^ 40) (h : K [.string (siteB l s), n] [tS (penT l s)]) : cl2 ⟨Try.prog, w0⟩ 74 spec_l10Site.sg [n, .string s] [tS l] K := by
  refine spec_l10Site.cl2 ?_
  unfold spec_l10Site.txt
  simp only [cnt_tS, List.nil_append]
  refine apW_i (flat_tS l) (by simp [cnt]; omega) ?_
  refine loopP_from (fun i => [.string s, iv i, n, .int .i64 0, n]) (fun _ => [tS l]) l.length (fun i => s ∉ l.take i) rfl rfl (by simp) (fun R i hi hP hR => ?_)
  refine prP_ltN (cndP_d (fun hlt => ?_) fun hge => ?_)
  · refine ixW_iv hlt (ldc_tS hlt (prP_eqlS (cndP_eqS (fun he => ?_) fun hne => ?_)))
    · have hm : s ∈ l := he ▸ List.getElem_mem hlt
      rw [siteB, penT, if_pos hm, if_pos hm, at_here hlt hP he] at h
      refine prP_inc (by omega) (spec_Var_c (n := Int.ofNat (i + 1)) ⟨by simp only [Int.ofNat_eq_natCast]; omega, by simp only [Int.ofNat_eq_natCast]; omega⟩ ?_)
      exact h
    · exact prP_inc (by omega) (hR hlt (notin_take hlt hP hne))
  · have : i = l.length := by omega
    subst this
    rw [List.take_length] at hP
    rw [siteB, penT, if_neg hP, if_neg hP] at h
    have hc : cnt 1 (nxc [tS l] 0) = l.length := cnt_tS l
    rw [hc]
    have h1 := V_size 0
    have h2 := ST_size s
    refine apW_i rfl (by simp [cnt]; omega) (spec_Var_c ⟨by omega, by omega⟩ (spec_ShowText_c (prP_catS (by omega) ?_)))
    have e : nxc [tS l] 0 ++ [T.c (nx [.string s, iv l.length, n, .int .i64 0, n] 0)] = tS (l ++ [s]) := by simp [tS, nxc, nx]
    rw [e]; exact h
def okE (n : Int) (l : List ByteArray) (a b c d : Int) (s : ByteArray) (k v : Int) (xs : List Int) : Bool := (spkB a b c d s && ansB k v xs) && penB n l
def Fx (q : ByteArray × Int) (x : Int) : ByteArray × Int := (q.1 ++ SI (x - q.2), x)
def base (n : Int) (l : List ByteArray) (a b c d : Int) (s : ByteArray) (k v : Int) (m : Nat) : ByteArray := ((((((SI a ++ SI (b - n)) ++ SI c) ++ SI (d - b)) ++ siteB l s) ++ V k) ++ SI (v - b)) ++ V m
def stE (p : ByteArray × Int) (xs : List Int) (i : Nat) : ByteArray × Int := (xs.take i).foldl Fx p
theorem stE_succ {p : ByteArray × Int} {xs : List Int} {i : Nat} (hi : i < xs.length) : stE p xs (i + 1) = Fx (stE p xs i) xs[i] := by
  rw [stE, List.take_succ_eq_append_getElem hi, List.foldl_append]; rfl
theorem stE_ok {p : ByteArray × Int} {xs : List Int} (hp : argB p.2 = true) (hx : xs.all argB = true) : ∀ i, i ≤ xs.length → argB (stE p xs i).2 = true ∧ (stE p xs i).1.size ≤ p.1.size + 7 * i
  | 0, _ => ⟨hp, Nat.le_refl _⟩
  | i + 1, hi => by
    obtain ⟨h1, h2⟩ := stE_ok hp hx i (by omega)
    rw [stE_succ (by omega)]
    refine ⟨List.all_eq_true.1 hx _ (List.getElem_mem _), ?_⟩
    have := V_size (zg (xs[i] - (stE p xs i).2))
    simp only [Fx, ByteArray.size_append, SI]; omega
theorem siteB_size (l : List ByteArray) (s : ByteArray) : (siteB l s).size ≤ 22 := by
  unfold siteB; split
  · have := V_size (at_ l s + 1); omega
  · have h1 := V_size 0
    have h2 := ST_size s
    rw [ByteArray.size_append]; omega
theorem SI_size (n : Int) : (SI n).size ≤ 7 := V_size _
theorem argB_b {n : Int} (h : argB n = true) : -1000000000 ≤ n ∧ n ≤ 1000000000 := inB_iff.1 h
def showR (n : Int) (l : List ByteArray) (a b c d : Int) (s : ByteArray) (k v : Int) (xs : List Int) : ByteArray × Int × List ByteArray :=
  if okE n l a b c d s k v xs then ((stE (base n l a b c d s k v xs.length, b) xs xs.length).1, b, penT l s) else (⟨#[]⟩, n, l)
theorem ok_parts {n : Int} {l : List ByteArray} {a b c d : Int} {s : ByteArray} {k v : Int} {xs : List Int} (h : okE n l a b c d s k v xs = true) : argB a = true ∧ argB b = true ∧ argB c = true ∧ argB d = true ∧ argB v = true ∧ argB n = true ∧ xs.all argB = true ∧ xs.length ≤ 8 ∧ (0 ≤ k ∧ k ≤ 6) ∧ l.length ≤ 400 := by
  simp only [okE, spkB, ansB, penB, Bool.and_eq_true, decide_eq_true_eq] at h
  exact ⟨h.1.1.1.1.1.1, h.1.1.1.1.1.2, h.1.1.1.1.2, h.1.1.1.2, h.1.2.1.1.2, h.2.1.1, h.1.2.2, h.1.2.1.2, inB_iff.1 h.1.2.1.1.1, h.2.1.2⟩
theorem base_size (n : Int) (l : List ByteArray) (a b c d : Int) (s : ByteArray) (k v : Int) (m : Nat) : (base n l a b c d s k v m).size ≤ 71 := by
  have h1 := SI_size a; have h2 := SI_size (b - n); have h3 := SI_size c; have h4 := SI_size (d - b); have h5 := siteB_size l s; have h6 := V_size k; have h7 := SI_size (v - b); have h8 := V_size m
  simp only [base, ByteArray.size_append]; omega
theorem spec_ShowEvent_c {w0 : World} {n : Int} {l : List ByteArray} {a b c d : Int} {s : ByteArray} {k v : Int} {xs : List Int} {K : J2} (hl : l.length < 2 ^ 40) (hx : (xs.length : Int) < 2 ^ 62)
    (h : K [.string (showR n l a b c d s k v xs).1, I (showR n l a b c d s k v xs).2.1] [tS (showR n l a b c d s k v xs).2.2]) : cl2 ⟨Try.prog, w0⟩ 15 spec_ShowEvent.sg [I n, I a, I b, I c, I d, .string s, I k, I v] [tS l, tI xs] K := by
  refine spec_ShowEvent.cl2 ?_
  unfold spec_ShowEvent.txt
  simp only [cnt_tS, cnt_tI]
  refine spec_Speakable_c (prP_not (gE_b (gP_orN (fun _ K hk => spec_l10AnswerOk_c hx hk) (gE_b (gP_orN (fun _ K hk => spec_l10PenOk_c (by omega) hk) (cndP_i (fun hb => ?_) fun hb => ?_))))))
  · have hno : okE n l a b c d s k v xs = false := by
      revert hb; unfold okE
      cases spkB a b c d s <;> cases ansB k v xs <;> cases penB n l <;> simp
    rw [showR, hno] at h
    refine apW_i (flat_tS l) (by simp [cnt]; omega) ?_
    rw [List.nil_append]; exact h
  · have hok : okE n l a b c d s k v xs = true := by
      revert hb; unfold okE
      cases spkB a b c d s <;> cases ansB k v xs <;> cases penB n l <;> simp
    rw [showR, if_pos hok] at h
    obtain ⟨ha, hb, hc, hd, hv, hn, hxs, hxl, hk, hll⟩ := ok_parts hok
    have a1 := argB_b ha; have b1 := argB_b hb; have c1 := argB_b hc; have d1 := argB_b hd; have v1 := argB_b hv; have n1 := argB_b hn
    have h1 := SI_size a; have h2 := SI_size (b - n); have h3 := SI_size c; have h4 := SI_size (d - b); have h5 := siteB_size l s; have h6 := V_size k; have h7 := SI_size (v - b); have h8 := V_size xs.length
    refine spec_l10Site_c hl (spec_ShowInt_c (prP_sub ⟨by omega, by omega⟩ (spec_ShowInt_c (prP_catS (by omega) (spec_ShowInt_c (prP_catS (by simp only [ByteArray.size_append]; omega) (prP_sub ⟨by omega, by omega⟩ (spec_ShowInt_c (prP_catS (by simp only [ByteArray.size_append]; omega) (prP_catS (by simp only [ByteArray.size_append]; omega) (spec_Var_c ⟨by omega, by omega⟩ (prP_catS (by simp only [ByteArray.size_append]; omega) (prP_sub ⟨by omega, by omega⟩ (spec_ShowInt_c (prP_catS (by simp only [ByteArray.size_append]; omega) (spec_Var_c (n := Int.ofNat xs.length) ⟨by simp only [Int.ofNat_eq_natCast]; omega, by simp only [Int.ofNat_eq_natCast]; omega⟩ (prP_catS (by simp only [Int.ofNat_eq_natCast, ByteArray.size_append]; omega) ?_)))))))))))))))))
    have hbs := base_size n l a b c d s k v xs.length
    refine loopP_from (fun i => [.string (stE (base n l a b c d s k v xs.length, b) xs i).1, I (stE (base n l a b c d s k v xs.length, b) xs i).2, iv i, I a, I b, I c, I d, .string s, I k, I v, .int .i64 0, I n]) (fun _ => [tS (penT l s)]) xs.length (fun _ => True) rfl rfl trivial (fun R i hi _ hR => ?_)
    refine prP_ltN (cndP_d (fun hlt => ?_) fun hge => ?_)
    · obtain ⟨q1, q2⟩ := stE_ok (p := (base n l a b c d s k v xs.length, b)) hb hxs i hi
      have q3 := argB_b q1
      have q4 := argB_b (List.all_eq_true.1 hxs _ (List.getElem_mem hlt))
      simp only at q2
      have q5 := SI_size (xs[i] - (stE (base n l a b c d s k v xs.length, b) xs i).2)
      have := hR hlt trivial
      rw [stE_succ hlt] at this
      exact ixW_iv hlt (ldc_tI hlt (prP_sub ⟨by omega, by omega⟩ (spec_ShowInt_c (prP_catS (by omega) (ixW_iv hlt (ldc_tI hlt (prP_inc (by omega) this)))))))
    · have : i = xs.length := by omega
      subst this
      exact h
theorem joinP_i {f : J2} {g : J2 → Prop} (P : List Value → List (List T) → Prop) (h1 : ∀ xs cs, P xs cs → f xs cs) (h2 : ∀ j : J2, (∀ xs cs, P xs cs → j xs cs) → g j) : joinP f g := h2 f h1
theorem impl_ShowEvent_c {w0 : World} {n : Int} {l : List ByteArray} {a b c d : Int} {s : ByteArray} {k v : Int} {xs : List Int} {K : J2} (hl : l.length < 2 ^ 40) (hx : (xs.length : Int) < 2 ^ 62)
    (h : K [.string (showR n l a b c d s k v xs).1, I (showR n l a b c d s k v xs).2.1] [tS (showR n l a b c d s k v xs).2.2]) : cl2 ⟨Try.prog, w0⟩ 19 impl_ShowEvent.sg [I n, I a, I b, I c, I d, .string s, I k, I v] [tS l, tI xs] K := by
  refine impl_ShowEvent.cl2 ?_
  unfold impl_ShowEvent.txt
  simp only [cnt_tS, cnt_tI]
  refine impl_copyPen_c (by omega) (impl_Speakable_c (prP_not (gE_b (gP_orN (fun _ K hk => impl_answerable_c hx hk) (gE_b (gP_orN (fun _ K hk => impl_penOk_c (by omega) hk) (cndP_i (fun hb => ?_) fun hb => ?_)))))))
  · have hno : okE n l a b c d s k v xs = false := by
      revert hb; unfold okE
      cases spkB a b c d s <;> cases ansB k v xs <;> cases penB n l <;> simp
    rw [showR, hno] at h
    exact h
  · have hok : okE n l a b c d s k v xs = true := by
      revert hb; unfold okE
      cases spkB a b c d s <;> cases ansB k v xs <;> cases penB n l <;> simp
    rw [showR, if_pos hok] at h
    obtain ⟨ha, hb, hc, hd, hv, hn, hxs, hxl, hk, hll⟩ := ok_parts hok
    have a1 := argB_b ha; have b1 := argB_b hb; have c1 := argB_b hc; have d1 := argB_b hd; have v1 := argB_b hv; have n1 := argB_b hn
    have h1 := SI_size a; have h2 := SI_size (b - n); have h3 := SI_size c; have h4 := SI_size (d - b); have h5 := siteB_size l s; have h6 := V_size k; have h7 := SI_size (v - b); have h8 := V_size xs.length
    refine impl_ShowInt_c (prP_sub ⟨by omega, by omega⟩ (impl_ShowInt_c (prP_catS (by omega) (impl_ShowInt_c (prP_catS (by simp only [ByteArray.size_append]; omega) (prP_sub ⟨by omega, by omega⟩ (impl_ShowInt_c (prP_catS (by simp only [ByteArray.size_append]; omega) ?_))))))))
    refine joinP_i (fun ys cs => ys = [.string (((((SI a ++ SI (b - n)) ++ SI c) ++ SI (d - b))) ++ siteB l s), I a, I b, I c, I d, .string s, I k, I v, .int .i64 0, I b] ∧ cs = [tS (penT l s)]) (fun ys cs hp => ?_) fun j hj => ?_
    · obtain ⟨rfl, rfl⟩ := hp
      refine impl_Var_c ⟨by omega, by omega⟩ (prP_sub ⟨by omega, by omega⟩ (impl_ShowInt_c (prP_catS (by omega) (impl_Var_c (n := Int.ofNat xs.length) ⟨by simp only [Int.ofNat_eq_natCast]; omega, by simp only [Int.ofNat_eq_natCast]; omega⟩ (prP_catS (by simp only [Int.ofNat_eq_natCast, ByteArray.size_append]; omega) (prP_catS (by simp only [Int.ofNat_eq_natCast, ByteArray.size_append]; omega) ?_))))))
      have hbs := base_size n l a b c d s k v xs.length
      refine loopP_from (fun i => [.string (stE (base n l a b c d s k v xs.length, b) xs i).1, I (stE (base n l a b c d s k v xs.length, b) xs i).2, iv xs.length, iv i, .int .i64 0, I b]) (fun _ => [tS (penT l s)]) xs.length (fun _ => True) ?_ rfl trivial (fun R i hi _ hR => ?_)
      · have e : (stE (base n l a b c d s k v xs.length, b) xs 0) = (base n l a b c d s k v xs.length, b) := rfl
        rw [e]
        simp only [base, ByteArray.append_assoc, Int.ofNat_eq_natCast]
        rfl
      refine prP_ltN (cndP_d (fun hlt => ?_) fun hge => ?_)
      · obtain ⟨q1, q2⟩ := stE_ok (p := (base n l a b c d s k v xs.length, b)) hb hxs i hi
        have q3 := argB_b q1
        have q4 := argB_b (List.all_eq_true.1 hxs _ (List.getElem_mem hlt))
        simp only at q2
        have q5 := SI_size (xs[i] - (stE (base n l a b c d s k v xs.length, b) xs i).2)
        have := hR hlt trivial
        rw [stE_succ hlt] at this
        exact ixW_iv hlt (ldc_tI hlt (prP_sub ⟨by omega, by omega⟩ (impl_ShowInt_c (prP_catS (by omega) (prP_inc (by omega) this)))))
      · have : i = xs.length := by omega
        subst this
        exact h
    · refine impl_textAt_c (by omega) (prP_geq (b := 0) (cndP_d (fun hge => ?_) fun hlt => ?_))
      · have hm : s ∈ l := by
          by_cases hm : s ∈ l
          · exact hm
          · rw [at_, if_neg hm] at hge; omega
        have hat : at_ l s ≤ l.length := by rw [at_, if_pos hm]; have := List.idxOf_lt_length_of_mem hm; omega
        have hv := V_size (at_ l s + 1)
        refine prP_add (b := 1) ⟨by omega, by omega⟩ (impl_Var_c ⟨by omega, by omega⟩ (prP_catS (by simp only [ByteArray.size_append]; omega) (hj _ _ ⟨?_, ?_⟩)))
        · rw [siteB, if_pos hm]
        · rw [penT, if_pos hm]; rfl
      · have hm : s ∉ l := by
          intro hm
          rw [at_, if_pos hm] at hlt; omega
        have hv := V_size 0
        have hs := ST_size s
        refine impl_Var_c ⟨by omega, by omega⟩ (impl_ShowText_c (prP_catS (by omega) (prP_catS (by simp only [ByteArray.size_append]; omega) (apW_i rfl ?_ (hj _ _ ⟨?_, ?_⟩)))))
        · have hc : cnt 1 (nxc [tS l] 0) = l.length := cnt_tS l
          rw [hc]; simp [cnt]; omega
        · rw [siteB, if_neg hm]
        · rw [penT, if_neg hm]; simp [tS, nxc]
theorem laws_szPen_c {w0 : World} {n z : Int} {l : List ByteArray} {K : J2} (hl : (l.length : Int) < 2 ^ 63) (hs : ∀ s ∈ l, (s.size : Int) < 2 ^ 63) (hz : 0 ≤ z ∧ z ≤ 2 ^ 62) (h0 : K [I (-1)] []) (h1 : ∀ r, 0 ≤ r → r ≤ z → (l.length : Int) ≤ z → K [I r] []) : cl2 ⟨Try.prog, w0⟩ 12 laws_szPen.sg [I n, I z] [tS l] K :=
  laws_szPen.cl2 (laws_szStringS.cl2 (laws_szStringS_t hl hs hz (prP_lss (cndP_d (fun _ => h0) fun hx => absurd (show (-1 : Int) < 0 by omega) hx)) fun r r0 r1 r2 r3 => prP_lss (cndP_d (fun hx => absurd hx (by omega)) fun _ => h1 r r0 r1 r2)))
theorem laws_szOp_c {w0 : World} {a b c d z : Int} {s : ByteArray} {K : J2} (hs : (s.size : Int) < 2 ^ 63) (hz : 0 ≤ z ∧ z ≤ 2 ^ 62) (h0 : K [I (-1)] []) (h1 : ∀ r, 0 ≤ r → r ≤ z → K [I r] []) : cl2 ⟨Try.prog, w0⟩ 13 laws_szOp.sg [I a, I b, I c, I d, .string s, I z] [] K :=
  laws_szOp.cl2 (prP_lnS (prP_sub ⟨by omega, by omega⟩ (prP_lss (cndP_d (fun _ => h0) fun hx => h1 _ (by omega) (by omega)))))
theorem laws_szAnswer_c {w0 : World} {k v z : Int} {l : List Int} {K : J2} (hl : (l.length : Int) < 2 ^ 63) (hz : 0 ≤ z ∧ z ≤ 2 ^ 62) (h0 : K [I (-1)] []) (h1 : ∀ r, 0 ≤ r → r ≤ z → (l.length : Int) ≤ z → K [I r] []) : cl2 ⟨Try.prog, w0⟩ 14 laws_szAnswer.sg [I k, I v, I z] [tI l] K := by
  refine laws_szAnswer.cl2 (laws_szIntS.cl2 ?_)
  unfold laws_szIntS.txt
  simp only [cnt_tI]
  refine prP_sub (b := Int.ofNat l.length) ⟨by simp only [Int.ofNat_eq_natCast]; omega, by simp only [Int.ofNat_eq_natCast]; omega⟩ (prP_lss (cndP_d (fun _ => ?_) fun hge => ?_))
  · exact prP_lss (cndP_d (fun _ => h0) fun hx => absurd (show (-1 : Int) < 0 by omega) hx)
  · simp only [Int.ofNat_eq_natCast] at hge
    exact prP_lss (cndP_d (fun hx => absurd hx (by simp only [Int.ofNat_eq_natCast]; omega)) fun _ => h1 _ (by simp only [Int.ofNat_eq_natCast]; omega) (by simp only [Int.ofNat_eq_natCast]; omega) (by omega))
theorem laws_toPen_c {w0 : World} {n : Value} {l : List ByteArray} {K : J2} (hl : (l.length : Int) < 2 ^ 40) (h : K [n] [tS l]) : cl2 ⟨Try.prog, w0⟩ 16 laws_toPen.sg [n] [tS l] K :=
  laws_toPen.cl2 (laws_toStringS.cl2 (laws_toStringS_t hl h))
theorem laws_toOp_c {w0 : World} {a b c d e : Value} {K : J2} (h : K [a, b, c, d, e] []) : cl2 ⟨Try.prog, w0⟩ 17 laws_toOp.sg [a, b, c, d, e] [] K := laws_toOp.cl2 h
theorem laws_toAnswer_c {w0 : World} {k v : Value} {l : List Int} {K : J2} (hl : (l.length : Int) < 2 ^ 40) (h : K [k, v] [tI l]) : cl2 ⟨Try.prog, w0⟩ 18 laws_toAnswer.sg [k, v] [tI l] K :=
  laws_toAnswer.cl2 (laws_toIntS.cl2 (laws_toIntS_t hl h))
/-- A pen beside itself. -/
theorem laws_eqPen_c {w0 : World} {n : Int} {l : List ByteArray} {K : J2} (hl : (l.length : Int) < 2 ^ 62) (h : K [.bool true] []) : cl2 ⟨Try.prog, w0⟩ 20 laws_eqPen.sg [I n, I n] [tS l, tS l] K :=
  laws_eqPen.cl2 (prP_neq (cndP_ne (fun hn => absurd rfl hn) fun _ => laws_eqStringS.cl2 (laws_eqStringS_t hl (by rw [decide_eq_true rfl]; exact prP_not (cndP_i (fun hx => by cases hx) fun _ => h)))))
theorem laws_eqAnswer_c {w0 : World} {k v : Int} {l : List Int} {K : J2} (hl : (l.length : Int) < 2 ^ 62) (h : K [.bool true] []) : cl2 ⟨Try.prog, w0⟩ 21 laws_eqAnswer.sg [I k, I v, I k, I v] [tI l, tI l] K :=
  laws_eqAnswer.cl2 (prP_neq (cndP_ne (fun hn => absurd rfl hn) fun _ => prP_neq (cndP_ne (fun hn => absurd rfl hn) fun _ => laws_eqIntS.cl2 (laws_eqIntS_t hl (by rw [decide_eq_true rfl]; exact prP_not (cndP_i (fun hx => by cases hx) fun _ => h))))))
theorem laws_markPen_c {w0 : World} {n : Value} {z : Int} {l : List ByteArray} {K : J2} (hl : (l.length : Int) < 2 ^ 62) (hz : 0 ≤ z ∧ z < 2 ^ 62) (h : K [I (z + l.length)] [tS (marksS z l.length)]) : cl2 ⟨Try.prog, w0⟩ 22 laws_markPen.sg [n, I z] [tS l] K :=
  laws_markPen.cl2 (laws_markStringS.cl2 (laws_markStringS_t hl hz h))
theorem laws_markAnswer_c {w0 : World} {k v : Value} {z : Int} {l : List Int} {K : J2} (hl : (l.length : Int) < 2 ^ 62) (hz : 0 ≤ z ∧ z < 2 ^ 62) (h : K [I (z + l.length)] [tI (marks z l.length)]) : cl2 ⟨Try.prog, w0⟩ 23 laws_markAnswer.sg [k, v, I z] [tI l] K :=
  laws_markAnswer.cl2 (laws_markIntS.cl2 (laws_markIntS_t hl hz h))
theorem marksS_len (z : Int) (k : Nat) : (marksS z k).length = k := by simp [marksS]
theorem laws_heldPen_c {w0 : World} {n : Value} {z : Int} {m : Nat} {K : J2} (hl : (m : Int) < 2 ^ 61) (hz : 0 ≤ z ∧ z < 2 ^ 61) (h : K [I (z + m)] []) : cl2 ⟨Try.prog, w0⟩ 24 laws_heldPen.sg [n, I z] [tS (marksS z m)] K := by
  refine laws_heldPen.cl2 (laws_heldStringS.cl2 (laws_heldStringS_t (by rw [marksS_len]; omega) ⟨hz.1, by omega⟩ ?_))
  rw [marksS_len, if_pos rfl]
  exact prP_lss (cndP_d (fun hx => absurd hx (by omega)) fun _ => h)
theorem neq_self {s : ByteArray} {K : Value → Prop} (h : K (.bool false)) : prP (bnS .neq (.string s) (.string s)) K := by
  refine prP_neqS ?_
  have : (!(s.toList == s.toList)) = false := by simp
  rw [this]; exact h
theorem FnExactShowEvent_t {w0 : World} {n : Int} {l : List ByteArray} {a b c d : Int} {s : ByteArray} {k v : Int} {xs : List Int} (hl : (l.length : Int) < 2 ^ 63) (hls : ∀ s ∈ l, (s.size : Int) < 2 ^ 63) (hs : (s.size : Int) < 2 ^ 63) (hx : (xs.length : Int) < 2 ^ 63) {K : J2} (done : K [.bool true] []) :
    laws_FnExactShowEvent.txt ⟨Try.prog, w0⟩ (I n) (I a) (I b) (I c) (I d) (.string s) (I k) (I v) (tS l) (tI xs) K := by
  unfold laws_FnExactShowEvent.txt
  have neg : ∀ {p q : Prop}, p → cndP (.bool (decide ((-1 : Int) < 0))) p q := fun h => cndP_d (fun _ => h) fun hx => absurd (show (-1 : Int) < 0 by omega) hx
  have pos : ∀ {r : Int} {p q : Prop}, 0 ≤ r → q → cndP (.bool (decide (r < 0))) p q := fun hr h => cndP_d (fun hx => absurd hx (by omega)) fun _ => h
  refine laws_szPen_c hl hls ⟨by omega, by omega⟩ (prP_lss (neg done)) fun r r0 r1 r2 => prP_lss (pos r0 ?_)
  refine laws_szOp_c hs ⟨r0, by omega⟩ (prP_lss (neg done)) fun q q0 q1 => prP_lss (pos q0 ?_)
  refine laws_szAnswer_c hx ⟨q0, by omega⟩ (prP_lss (neg done)) fun p p0 p1 p2 => prP_lss (pos p0 ?_)
  have hl2 : l.length < 2 ^ 40 := by omega
  have hx2 : (xs.length : Int) < 2 ^ 40 := by omega
  have hpt : ((showR n l a b c d s k v xs).2.2.length : Int) ≤ 2 ^ 41 := by
    unfold showR penT; split
    · split <;> simp <;> omega
    · simp only; omega
  refine laws_toPen_c (by omega) (laws_toOp_c (laws_toAnswer_c hx2 (spec_ShowEvent_c hl2 (by omega) ?_)))
  refine laws_toPen_c (by omega) (laws_toAnswer_c hx2 (laws_toOp_c (impl_ShowEvent_c hl2 (by omega) ?_)))
  obtain ⟨⟨R1, R2, R3⟩, hR⟩ : ∃ R, showR n l a b c d s k v xs = R := ⟨_, rfl⟩
  simp only [hR] at hpt ⊢
  have eqP : ∀ {K : Value → Prop}, K (.bool true) → cl2 ⟨Try.prog, w0⟩ 20 laws_eqPen.sg [I R2, I R2] [tS R3, tS R3] fun vs cs => K (nx vs 0) := fun h => laws_eqPen_c (by omega) h
  refine neq_self (gE_b (gE_b (gP_orN (b := true) (fun _ K hk => eqP hk) (cndP_i (fun hx => by cases hx) fun _ => ?_))))
  refine laws_toPen_c (by omega) (laws_eqPen_c (by omega) (prP_not (cndP_i (fun hx => by cases hx) fun _ => ?_)))
  refine laws_toAnswer_c hx2 (laws_eqAnswer_c (by omega) (prP_not (cndP_i (fun hx => by cases hx) fun _ => ?_)))
  refine laws_markPen_c (by omega) ⟨by omega, by omega⟩ (laws_markAnswer_c (by omega) ⟨by omega, by omega⟩ ?_)
  refine prP_lss ?_
  rw [decide_eq_false (by omega)]
  refine gE_b (gE_b (gP_or (b := false) (fun _ K hk => neq_self hk) (gE_b (gE_b (gP_orN (b := true) (fun _ K hk => eqP hk) (cndP_i (fun hx => by cases hx) fun _ => ?_))))))
  refine laws_markPen_c (by omega) ⟨by omega, by omega⟩ (laws_heldPen_c (by omega) ⟨by omega, by omega⟩ (prP_lss (pos (by omega) (prP_neq (cndP_ne (fun hn => absurd rfl hn) fun _ => ?_)))))
  refine laws_toPen_c (by omega) (laws_toOp_c (laws_toAnswer_c hx2 (impl_ShowEvent_c hl2 (by omega) ?_)))
  simp only [hR]
  refine neq_self (gE_b (gE_b (gP_orN (b := true) (fun _ K hk => eqP hk) (cndP_i (fun hx => by cases hx) fun _ => ?_))))
  exact laws_heldPen_c (by omega) ⟨by omega, by omega⟩ (prP_lss (pos (by omega) (prP_neq (cndP_ne (fun hn => absurd rfl hn) fun _ => done))))
end Go.Proofs.Ytmikdglafmfnfaa.P
