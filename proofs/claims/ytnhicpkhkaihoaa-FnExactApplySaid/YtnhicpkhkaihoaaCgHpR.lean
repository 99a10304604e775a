/- A part of the proof. -/
import Derived.Test.YtnhicpkhkaihoaaCgHpO
/- Trials: scanning. -/
namespace Go.Proofs.Ytnhicpkhkaihoaa.P
open Go Go.Proofs.Ytnhicpkhkaihoaa Go.Proofs.Ytnhicpkhkaihoaa.Eng
set_option linter.unusedVariables false
set_option maxHeartbeats 4000000
set_option linter.unusedVariables false
set_option linter.unusedSimpArgs false
attribute [local irreducible] prP gP gE gF cndP ixW ldc ldg ldl stc stg scW mkW apW loopP cl2 joinP pre2 selW
variable {w0 : World}
theorem impl_MarkGray_c {os : List HObj} {b c' d : List T} {cs col : List Int} {id : Int} {K : J2} (hol : os.length = 8) (hof : ∀ o ∈ os, OF o) (h1 : cs.length = 8) (h2 : col.length = 8) (hf : ∀ i, i < 8 → F64 (gI cs i)) (hno : slotOf os id < 0 → K [] [tI cs, tI col]) (h : ∀ s : Nat, slotOf os id = s → s < 8 → ∀ cs' col', PaintR os 1 (-1) cs col cs' col' s → K [] [tI cs', tI col']) : cl2 ⟨Try.prog, w0⟩ 220 impl_MarkGray.sg [I (slotOf os id)] [tR tO os, b, c', d, tI cs, tI col] K := by
  refine impl_MarkGray.cl2 ?_
  unfold impl_MarkGray.txt
  refine impl_copyTrial_c (by omega) (by omega) (joinP_k (impl_canTry_c hol h1 h2 (fun hs => cndP_F (hno hs)) fun hs => cndP_T ?_))
  have hk := slotOf_bd hs
  obtain ⟨s, hss⟩ : ∃ s, (slotOf os id).toNat = s := ⟨_, rfl⟩
  have hsI : slotOf os id = (s : Int) := by omega
  have hs : s < 8 := hss ▸ hk.2.2.2.1
  rw [hsI]
  exact impl_paint_c hol hof ⟨by omega, by omega⟩ ⟨by omega, by omega⟩ 8 (miss_8 _ _) hs h1 h2 hf fun cs' col' p => h s hsI hs _ _ p
/-! ### What scanning keeps -/
def EX (os : List HObj) (ct : Nat → Int) (C : Nat → Bool) (x : Nat) : Prop := w64 (ct x - S os C x) > 0
structure SN (os : List HObj) (ct : Nat → Int) (C : Nat → Bool) (cs col : List Int) : Prop where
  len : cs.length = 8 ∧ col.length = 8
  f : ∀ i, i < 8 → F64 (gI cs i)
  rng : ∀ k, k < 8 → gI col k = 0 ∨ gI col k = 1 ∨ gI col k = 2
  out : ∀ k, k < 8 → C k = false → gI col k = 0
  cnt : ∀ i, i < 8 → gI cs i = w64 (ct i - S os (fun k => !isC col 0 k) i)
  blk : ∀ k, k < 8 → C k = true → gI col k = 0 → (∃ x, x < 8 ∧ C x = true ∧ EX os ct C x ∧ Reach os x k) ∧ ∀ j ∈ kidsM os k, gI col j.toNat = 0
  wht : ∀ k, k < 8 → gI col k = 2 → ¬ EX os ct C k
structure ScanR (os : List HObj) (ct : Nat → Int) (C : Nat → Bool) (col cs' col' : List Int) (s : Nat) : Prop where
  si : SN os ct C cs' col'
  ng : ∀ k, k < 8 → gI col k ≠ 1 → gI col' k ≠ 1
  got : gI col' s ≠ 1
  wk : ∀ k, k < 8 → gI col' k = 2 → gI col k = 2 ∨ ∀ j ∈ kidsM os k, gI col' j.toNat ≠ 1
section
variable {os : List HObj} {ct : Nat → Int} {C : Nat → Bool} {cs col cs' col' : List Int} {s : Nat}
theorem SN.gray (h : SN os ct C cs col) (hs : s < 8) (hg : gI col s = 1) : gI cs s > 0 ↔ EX os ct C s := by
  have e : S os (fun k => !isC col 0 k) s = S os C s := by
    refine sumTo_congr fun b hb => ?_
    by_cases h0 : gI col b = 0
    · have e1 : isC col 0 b = true := by simp [isC, h0]
      simp only [e1]
      cases hc : C b with
      | false => simp
      | true =>
        have e2 : E os b s = 0 := E_zero fun hm => by
          have := (h.blk b hb hc h0).2 _ hm
          rw [Int.toNat_natCast, hg] at this; omega
        simp [e2]
    · have e1 : isC col 0 b = false := by simp [isC, h0]
      simp only [e1]
      cases hc : C b with
      | false => exact absurd (h.out b hb hc) h0
      | true => simp
  rw [h.cnt s hs, e]; rfl
theorem SN.inC (h : SN os ct C cs col) (hs : s < 8) (hg : gI col s ≠ 0) : C s = true := by
  cases hc : C s with
  | false => exact absurd (h.out s hs hc) hg
  | true => rfl
theorem SN.black (h : SN os ct C cs col) (hs : s < 8) (hg : gI col s = 1) (he : EX os ct C s) (p : PaintR os 0 1 cs col cs' col' s) : ScanR os ct C col cs' col' s := by
  refine ⟨⟨p.len, p.f, fun k hk => ?_, fun k hk hc => p.keep k hk (h.out k hk hc), fun i hi => ?_, fun k hk hc h0 => ?_, fun k hk h2 => ?_⟩, fun k hk h1 => ?_, by rw [p.got]; decide, fun k hk h2 => .inl ?_⟩
  · by_cases h0 : gI col' k = 0
    · exact .inl h0
    · rw [p.only k hk h0]; exact h.rng k hk
  · rw [p.cnt i hi, h.cnt i hi, w64_add]
    congr 1
    have e1 := S_split (os := os) (P := isC col' 0) (i := i)
    have e2 := S_split (os := os) (P := isC col 0) (i := i)
    omega
  · by_cases h3 : gI col k = 0
    · obtain ⟨g1, g2⟩ := h.blk k hk hc h3
      exact ⟨g1, fun j hj => p.keep _ (kids_bd hj).2.1 (g2 j hj)⟩
    · obtain ⟨g1, g2⟩ := p.clo k hk h0 h3
      exact ⟨⟨s, hs, h.inC hs (by omega), he, g1⟩, g2⟩
  · have := p.only k hk (by omega)
    exact h.wht k hk (by omega)
  · by_cases h0 : gI col' k = 0
    · omega
    · rw [p.only k hk h0]; exact h1
  · have := p.only k hk (by omega)
    omega
theorem SN.white (h : SN os ct C cs col) (hs : s < 8) (hg : gI col s = 1) (he : ¬ EX os ct C s) : SN os ct C cs (col.set s 2) := by
  have hl := h.len
  have e : ∀ k, gI (col.set s 2) k = if k = s then 2 else gI col k := fun k => gI_set (by omega)
  refine ⟨⟨hl.1, by simpa using hl.2⟩, h.f, fun k hk => ?_, fun k hk hc => ?_, fun i hi => ?_, fun k hk hc h0 => ?_, fun k hk h2 => ?_⟩
  · rw [e]; split
    · exact .inr (.inr rfl)
    · exact h.rng k hk
  · rw [e]; split
    · rename_i hks; subst hks; have := h.out k hk hc; omega
    · exact h.out k hk hc
  · rw [h.cnt i hi]
    congr 2
    refine S_congr fun k hk => ?_
    simp only [isC, e]
    split
    · rename_i hks; subst hks; simp [hg]
    · rfl
  · rw [e] at h0
    split at h0
    · omega
    · obtain ⟨g1, g2⟩ := h.blk k hk hc h0
      refine ⟨g1, fun j hj => ?_⟩
      rw [e]; split
      · rename_i hjs; have := g2 j hj; rw [hjs] at this; omega
      · exact g2 j hj
  · rw [e] at h2
    split at h2
    · rename_i hks; subst hks; exact he
    · exact h.wht k hk h2
theorem SN.same (h : SN os ct C cs col) (hg : gI col s ≠ 1) : ScanR os ct C col cs col s := ⟨h, fun _ _ h => h, hg, fun _ _ h => .inl h⟩
end
/-- In the middle of scanning. -/
structure ScanJ (os : List HObj) (ct : Nat → Int) (C : Nat → Bool) (col : List Int) (s : Nat) (q : Nat × List Int × List Int) : Prop where
  j : q.1 ≤ (kidsM os s).length
  si : SN os ct C q.2.1 q.2.2
  ng : ∀ k, k < 8 → gI col k ≠ 1 ∨ k = s → gI q.2.2 k ≠ 1
  wk : ∀ k, k < 8 → k ≠ s → gI q.2.2 k = 2 → gI col k = 2 ∨ ∀ j ∈ kidsM os k, gI q.2.2 j.toNat ≠ 1
  done : ∀ x ∈ (kidsM os s).take q.1, gI q.2.2 x.toNat ≠ 1
section
variable {os : List HObj} {ct : Nat → Int} {C : Nat → Bool} {cs col cs1 col1 cs2 col2 : List Int} {s j : Nat}
theorem ScanJ.start (h : SN os ct C cs col) (hs : s < 8) (hg : gI col s = 1) (he : ¬ EX os ct C s) : ScanJ os ct C col s (0, cs, col.set s 2) := by
  have hl := h.len
  have e : ∀ k, gI (col.set s 2) k = if k = s then 2 else gI col k := fun k => gI_set (by omega)
  refine ⟨Nat.zero_le _, h.white hs hg he, fun k hk hh => ?_, fun k hk hne h2 => ?_, fun x hx => by simp at hx⟩
  · simp only; rw [e]; split
    · decide
    · rename_i hh2; exact hh.resolve_right hh2
  · simp only at h2; rw [e, if_neg hne] at h2; exact .inl h2
theorem ScanJ.step (h : ScanJ os ct C col s (j, cs1, col1)) (hj : j < (kidsM os s).length) (p : ScanR os ct C col1 cs2 col2 (gI (kidsM os s) j).toNat) : ScanJ os ct C col s (j + 1, cs2, col2) := by
  refine ⟨by simp only; omega, p.si, fun k hk hh => p.ng k hk (h.ng k hk hh), fun k hk hne h2 => ?_, fun x hx => ?_⟩
  · rcases p.wk k hk h2 with h3 | h3
    · exact (h.wk k hk hne h3).imp_right fun g y hy => p.ng _ (kids_bd hy).2.1 (g y hy)
    · exact .inr h3
  · simp only at hx ⊢
    rw [List.take_succ_eq_append_getElem hj, List.mem_append, List.mem_singleton] at hx
    rcases hx with hx | rfl
    · exact p.ng _ (kids_bd (List.mem_of_mem_take hx)).2.1 (h.done x hx)
    · rw [gI_eq hj]; exact p.got
theorem ScanJ.stop (hs : s < 8) (h : ScanJ os ct C col s ((kidsM os s).length, cs1, col1)) : ScanR os ct C col cs1 col1 s := by
  refine ⟨h.si, fun k hk hh => h.ng k hk (.inl hh), h.ng s hs (.inr rfl), fun k hk h2 => ?_⟩
  by_cases hks : k = s
  · subst hks
    exact .inr fun y hy => h.done y (by simp only; rw [List.take_length]; exact hy)
  · exact h.wk k hk hks h2
end
theorem impl_scan_c {os : List HObj} {b c' d : List T} {ct : Nat → Int} {C : Nat → Bool} (hol : os.length = 8) (hof : ∀ o ∈ os, OF o) : ∀ (n : Nat) {cs col : List Int} {s : Nat} {K : J2}, 8 - miss col 1 ≤ n → s < 8 → SN os ct C cs col → (∀ cs' col', ScanR os ct C col cs' col' s → K [] [tI cs', tI col']) → cl2 ⟨Try.prog, w0⟩ 236 impl_Trial_scan.sg [I s] [tI cs, tI col, tR tO os, b, c', d] K := by
  intro n
  induction n with
  | zero =>
    intro cs col s K hn hs si h
    have hl := si.len
    have : gI col s ≠ 1 := fun hg => by
      have := miss_lt (a := col.set s 2) (b := col) (c := 1) hs (by rw [gI_set (by omega)]; simp) hg fun k hk hh => by
        rw [gI_set (by omega)] at hh
        split at hh
        · omega
        · exact hh
      have := miss_8 (col.set s 2) 1
      omega
    refine impl_Trial_scan.cl2 ?_
    unfold impl_Trial_scan.txt
    simp only [cnt_tO, cnt_tW, cnt_tP, cnt_tA, cnt_tN, cnt_tI, cnt_tS, cnt1_1, cnt1_0, cnt2_1, cnt3_1, cnt5_1, cnt6_1, cnt8_1, nx_0, nx_1, nx_2, nx_3, nx_4, nx_5, nx_6, nxc_0, nxc_1, nxc_2, nxc_3, nxc_4, nxc_5]
    refine ixW_iv (by omega) (ldI (by omega) (prP_ned (cndP_yes this (h _ _ (si.same this)))))
  | succ n ih =>
    intro cs col s K hn hs si h
    have hl := si.len
    refine impl_Trial_scan.cl2 ?_
    unfold impl_Trial_scan.txt
    simp only [cnt_tO, cnt_tW, cnt_tP, cnt_tA, cnt_tN, cnt_tI, cnt_tS, cnt1_1, cnt1_0, cnt2_1, cnt3_1, cnt5_1, cnt6_1, cnt8_1, nx_0, nx_1, nx_2, nx_3, nx_4, nx_5, nx_6, nxc_0, nxc_1, nxc_2, nxc_3, nxc_4, nxc_5]
    refine ixW_iv (by omega) (ldI (by omega) (prP_ned (cndP_d (fun hg => h _ _ (si.same hg)) fun hg => ?_)))
    have hg : gI col s = 1 := Decidable.not_not.1 hg
    refine ixW_iv (by omega) (ldI (by omega) (prP_gtr (cndP_d (fun he => ?_) fun he => ?_)))
    · have he := (si.gray hs hg).1 he
      exact impl_paint_c hol hof ⟨by omega, by omega⟩ ⟨by omega, by omega⟩ 8 (miss_8 _ _) hs hl.1 hl.2 si.f fun cs' col' p => h _ _ (si.black hs hg he p)
    have he := fun hx => he ((si.gray hs hg).2 hx)
    refine ixW_iv (by omega) (stIw (v := 2) (by omega) (impl_leadsTo_c hol hof hs ?_))
    have hkl := kids_len hof (k := s) (by omega)
    refine loopP_wf (α := Nat × List Int × List Int) (fun q => [iv (kidsM os s).length, iv q.1]) (fun q => [tI (kidsM os s), tI q.2.1, tI q.2.2]) (fun q => (kidsM os s).length - q.1) (ScanJ os ct C col s) (0, cs, col.set s 2) (by simp only [cnt_tO, cnt_tW, cnt_tP, cnt_tA, cnt_tN, cnt_tI, cnt_tS, cnt1_1, cnt1_0, cnt2_1, cnt3_1, cnt5_1, cnt6_1, cnt8_1, nx_0, nx_1, nx_2, nx_3, nx_4, nx_5, nx_6, nxc_0, nxc_1, nxc_2, nxc_3, nxc_4, nxc_5]; rfl) rfl (ScanJ.start si hs hg he) (fun R q hq hR => ?_)
    obtain ⟨j, cs1, col1⟩ := q
    have hj := hq.j
    simp only at hj
    simp only [cnt_tO, cnt_tW, cnt_tP, cnt_tA, cnt_tN, cnt_tI, cnt_tS, cnt1_1, cnt1_0, cnt2_1, cnt3_1, cnt5_1, cnt6_1, cnt8_1, nx_0, nx_1, nx_2, nx_3, nx_4, nx_5, nx_6, nxc_0, nxc_1, nxc_2, nxc_3, nxc_4, nxc_5]
    refine prP_lss (cndP_d (fun hlt => ?_) fun hge => ?_)
    · have hlt : j < (kidsM os s).length := by omega
      obtain ⟨x1, x2, x3, _⟩ := kids_bd (gI_mem hlt)
      have hmiss : 8 - miss col1 1 ≤ n := by
        have := miss_lt (a := col1) (b := col) (c := 1) hs (hq.ng s hs (.inr rfl)) hg fun k hk hh => by
          by_cases h3 : gI col k = 1
          · exact h3
          · exact absurd hh (hq.ng k hk (.inl h3))
        have := miss_8 col1 1
        omega
      have stp := fun cs2 col2 => ScanJ.step (cs2 := cs2) (col2 := col2) hq hlt
      obtain ⟨x, hx⟩ : ∃ x, (gI (kidsM os s) j).toNat = x := ⟨_, rfl⟩
      rw [hx] at x2 x3 stp
      refine ixW_iv hlt (ldI hlt ?_)
      rw [x3]
      refine ih hmiss x2 hq.si fun cs2 col2 p => ?_
      exact prP_inc (by omega) (hR (j + 1, cs2, col2) (stp _ _ p) (by simp only; omega))
    · have : j = (kidsM os s).length := by omega
      subst this
      exact h _ _ (ScanJ.stop hs hq)
end Go.Proofs.Ytnhicpkhkaihoaa.P
/- Trials: the other text's scanning; a new trial; what is white. -/
namespace Go.Proofs.Ytnhicpkhkaihoaa.P
open Go Go.Proofs.Ytnhicpkhkaihoaa Go.Proofs.Ytnhicpkhkaihoaa.Eng
set_option linter.unusedVariables false
set_option maxHeartbeats 4000000
set_option linter.unusedVariables false
set_option linter.unusedSimpArgs false
attribute [local irreducible] prP gP gE gF cndP ixW ldc ldg ldl stc stg scW mkW apW loopP cl2 joinP pre2 selW
variable {w0 : World}
theorem impl_ScanFrom_c {os : List HObj} {b c' d : List T} {cs col : List Int} {ct : Nat → Int} {C : Nat → Bool} {id : Int} {K : J2} (hol : os.length = 8) (hof : ∀ o ∈ os, OF o) (si : SN os ct C cs col) (hno : slotOf os id < 0 → K [] [tI cs, tI col]) (h : ∀ s : Nat, slotOf os id = s → s < 8 → ∀ cs' col', ScanR os ct C col cs' col' s → K [] [tI cs', tI col']) : cl2 ⟨Try.prog, w0⟩ 221 impl_ScanFrom.sg [I (slotOf os id)] [tR tO os, b, c', d, tI cs, tI col] K := by
  have hl := si.len
  refine impl_ScanFrom.cl2 ?_
  unfold impl_ScanFrom.txt
  refine impl_copyTrial_c (by omega) (by omega) (joinP_k (impl_canTry_c hol hl.1 hl.2 (fun hs => cndP_F (hno hs)) fun hs => cndP_T ?_))
  have hk := slotOf_bd hs
  obtain ⟨s, hss⟩ : ∃ s, (slotOf os id).toNat = s := ⟨_, rfl⟩
  have hsI : slotOf os id = (s : Int) := by omega
  have hs : s < 8 := hss ▸ hk.2.2.2.1
  rw [hsI]
  exact impl_scan_c hol hof 8 (by omega) hs si fun cs' col' p => h s hsI hs _ _ p
/-- What waits to be scanned. -/
structure ScanW (os : List HObj) (ct : Nat → Int) (C : Nat → Bool) (col0 : List Int) (s : Nat) (todo cs col : List Int) : Prop where
  si : SN os ct C cs col
  ng : ∀ k, k < 8 → gI col0 k ≠ 1 → gI col k ≠ 1
  wk : ∀ k, k < 8 → gI col k = 2 → gI col0 k = 2 ∨ ∀ j ∈ kidsM os k, gI col j.toNat ≠ 1 ∨ j ∈ todo
  got : gI col s ≠ 1 ∨ (s : Int) ∈ todo
  td : ∀ x ∈ todo, 0 ≤ x ∧ x.toNat < 8
  sz : todo.length + 4 * (8 - miss col 1) ≤ 40
section
variable {os : List HObj} {ct : Nat → Int} {C : Nat → Bool} {col0 cs col cs' col' todo : List Int} {s k : Nat}
theorem ScanW.stop (h : ScanW os ct C col0 s [] cs col) : ScanR os ct C col0 cs col s :=
  ⟨h.si, h.ng, h.got.resolve_right (by simp), fun k hk h2 => (h.wk k hk h2).imp_right fun g j hj => (g j hj).resolve_right (by simp)⟩
theorem last_or {x : Int} (hl : todo.length > 0) (hk : gI todo (todo.length - 1) = (k : Int)) (h : x ∈ todo) : x ∈ todo.dropLast ∨ x = (k : Int) := by
  rw [todo_last hl, List.mem_append, List.mem_singleton, hk] at h; exact h
/-- The last that waits is not gray. -/
theorem ScanW.drop (h : ScanW os ct C col0 s todo cs col) (hl : todo.length > 0) (hk : gI todo (todo.length - 1) = (k : Int)) (hc : gI col k ≠ 1) : ScanW os ct C col0 s todo.dropLast cs col := by
  refine ⟨h.si, h.ng, fun x hx h2 => (h.wk x hx h2).imp_right fun g j hj => ?_, ?_, fun x hx => h.td x (List.dropLast_subset _ hx), by have := h.sz; rw [List.length_dropLast]; omega⟩
  · rcases g j hj with g | g
    · exact .inl g
    · rcases last_or hl hk g with g | rfl
      · exact .inr g
      · rw [Int.toNat_natCast]; exact .inl hc
  · rcases h.got with g | g
    · exact .inl g
    · rcases last_or hl hk g with g | g
      · exact .inr g
      · have : s = k := by omega
        subst this; exact .inl hc
theorem ScanW.black (h : ScanW os ct C col0 s todo cs col) (hl : todo.length > 0) (hk : gI todo (todo.length - 1) = (k : Int)) (p : ScanR os ct C col cs' col' k) : ScanW os ct C col0 s todo.dropLast cs' col' := by
  have hm : miss col 1 ≤ miss col' 1 := miss_le (a := col') (b := col) fun y hy h1 => Decidable.byContradiction fun hh => p.ng y hy hh h1
  refine ⟨p.si, fun x hx h1 => p.ng x hx (h.ng x hx h1), fun x hx h2 => ?_, ?_, fun x hx => h.td x (List.dropLast_subset _ hx), by have := h.sz; rw [List.length_dropLast]; omega⟩
  · rcases p.wk x hx h2 with h3 | h3
    · refine (h.wk x hx h3).imp_right fun g j hj => ?_
      rcases g j hj with g | g
      · exact .inl (p.ng _ (kids_bd hj).2.1 g)
      · rcases last_or hl hk g with g | rfl
        · exact .inr g
        · rw [Int.toNat_natCast]; exact .inl p.got
    · exact .inr fun j hj => .inl (h3 j hj)
  · rcases h.got with g | g
    · by_cases hs : s < 8
      · exact .inl (p.ng s hs g)
      · have e : gI col' s = 0 := by
          unfold gI; rw [List.getD_eq_getElem?_getD, List.getElem?_eq_none (by have := p.si.len.2; omega)]; rfl
        rw [e]; exact .inl (by decide)
    · rcases last_or hl hk g with g | g
      · exact .inr g
      · have : s = k := by omega
        subst this; exact .inl p.got
theorem ScanW.white (hof : ∀ o ∈ os, OF o) (hol : os.length = 8) (h : ScanW os ct C col0 s todo cs col) (hl : todo.length > 0) (hk : gI todo (todo.length - 1) = (k : Int)) (k8 : k < 8) (hg : gI col k = 1) (he : ¬ EX os ct C k) : ScanW os ct C col0 s (todo.dropLast ++ kidsM os k) cs (col.set k 2) ∧ (todo.dropLast ++ kidsM os k).length + 4 * (8 - miss (col.set k 2) 1) < todo.length + 4 * (8 - miss col 1) := by
  have hlen := h.si.len
  have e : ∀ x, gI (col.set k 2) x = if x = k then 2 else gI col x := fun x => gI_set (by omega)
  have n1 : ∀ x, gI col x ≠ 1 ∨ x = k → gI (col.set k 2) x ≠ 1 := fun x hx => by
    rw [e]; split
    · decide
    · rename_i hh; exact hx.resolve_right hh
  have hkl := kids_len hof (k := k) (by omega)
  have hm : miss col 1 < miss (col.set k 2) 1 := miss_lt (a := col.set k 2) (b := col) k8 (n1 k (.inr rfl)) hg fun y hy h1 => Decidable.byContradiction fun hh => n1 y (.inl hh) h1
  have hm8 := miss_8 (col.set k 2) 1
  have hsz := h.sz
  refine ⟨⟨h.si.white k8 hg he, fun x hx h1 => n1 x (.inl (h.ng x hx h1)), fun x hx h2 => ?_, ?_, fun x hx => ?_, by rw [List.length_append, List.length_dropLast]; omega⟩, by rw [List.length_append, List.length_dropLast]; omega⟩
  · by_cases hxk : x = k
    · subst hxk
      exact .inr fun j hj => .inr (List.mem_append_right _ hj)
    · rw [e, if_neg hxk] at h2
      refine (h.wk x hx h2).imp_right fun g j hj => ?_
      rcases g j hj with g | g
      · exact .inl (n1 _ (.inl g))
      · rcases last_or hl hk g with g | rfl
        · exact .inr (List.mem_append_left _ g)
        · rw [Int.toNat_natCast]; exact .inl (n1 _ (.inr rfl))
  · rcases h.got with g | g
    · exact .inl (n1 _ (.inl g))
    · rcases last_or hl hk g with g | g
      · exact .inr (List.mem_append_left _ g)
      · exact .inl (n1 _ (.inr (by omega)))
  · rcases List.mem_append.1 hx with hx | hx
    · exact h.td x (List.dropLast_subset _ hx)
    · exact ⟨(kids_bd hx).1, (kids_bd hx).2.1⟩
theorem ScanW.start (si : SN os ct C cs col) (hs : s < 8) : ScanW os ct C col s [(s : Int)] cs col :=
  ⟨si, fun _ _ h => h, fun _ _ h => .inl h, .inr (by simp), fun x hx => by have hx : x = (s : Int) := by simpa using hx
                                                                           subst hx; rw [Int.toNat_natCast]; exact ⟨by omega, hs⟩, by simp only [List.length_singleton]; omega⟩
end
theorem spec_ScanFrom_c {os : List HObj} {b c' d : List T} {cs col : List Int} {ct : Nat → Int} {C : Nat → Bool} {id : Int} {K : J2} (hol : os.length = 8) (hof : ∀ o ∈ os, OF o) (si : SN os ct C cs col) (hno : slotOf os id < 0 → K [] [tI cs, tI col]) (h : ∀ s : Nat, slotOf os id = s → s < 8 → ∀ cs' col', ScanR os ct C col cs' col' s → K [] [tI cs', tI col']) : cl2 ⟨Try.prog, w0⟩ 196 spec_ScanFrom.sg [I (slotOf os id)] [tR tO os, b, c', d, tI cs, tI col] K := by
  have hl := si.len
  refine spec_ScanFrom.cl2 ?_
  unfold spec_ScanFrom.txt
  refine spec_l7Copy_c (by omega) (by omega) (spec_l7Ok_c hol hl.1 hl.2 (fun hs => prP_not (cndP_T (hno hs))) fun hs => ?_)
  have hk := slotOf_bd hs
  obtain ⟨s, hss⟩ : ∃ s, (slotOf os id).toNat = s := ⟨_, rfl⟩
  have hsI : slotOf os id = (s : Int) := by omega
  have hs : s < 8 := hss ▸ hk.2.2.2.1
  replace h := h s hsI hs
  clear hno
  rw [hsI]
  refine prP_not (cndP_F ?_)
  refine loopP_wf (α := List Int × Nat × List Int × List Int × List Int) (fun q => [iv q.2.2.1.length, iv q.2.1]) (fun q => [tI q.1, tI q.2.2.2.1, tI q.2.2.2.2]) (fun q => q.2.2.1.length + 4 * (8 - miss q.2.2.2.2 1)) (fun q => Vw q.1 q.2.1 q.2.2.1 ∧ ScanW os ct C col s q.2.2.1 q.2.2.2.1 q.2.2.2.2) ([(s : Int)], 0, [(s : Int)], cs, col) rfl rfl ⟨Vw.new _, ScanW.start si hs⟩ (fun R q hq hR => ?_)
  obtain ⟨row, off, todo, cs1, col1⟩ := q
  obtain ⟨vw, wk⟩ := hq
  simp only at vw wk
  have hsz := wk.sz
  have hbd := vw.bd
  have hlen := wk.si.len
  simp only [cnt_tO, cnt_tW, cnt_tP, cnt_tA, cnt_tN, cnt_tI, cnt_tS, cnt1_1, cnt1_0, cnt2_1, cnt3_1, cnt5_1, cnt6_1, cnt8_1, nx_0, nx_1, nx_2, nx_3, nx_4, nx_5, nx_6, nxc_0, nxc_1, nxc_2, nxc_3, nxc_4, nxc_5]
  simp only [natOf_iv]
  refine prP_gtr (cndP_d (fun hlt => ?_) fun hge => ?_)
  · have hlt : todo.length > 0 := by omega
    obtain ⟨k, hk⟩ : ∃ k, (gI todo (todo.length - 1)).toNat = k := ⟨_, rfl⟩
    have ht := wk.td _ (gI_mem (l := todo) (i := todo.length - 1) (by omega))
    have e1 : gI todo (todo.length - 1) = (k : Int) := by omega
    have k8 : k < 8 := hk ▸ ht.2
    have ev : ((todo.length : Int) - 1) = ((todo.length - 1 : Nat) : Int) := by omega
    refine prP_sub ⟨by omega, by omega⟩ ?_
    rw [ev]
    refine ixW_iv (by omega) ?_
    have eg := vw.get (j := todo.length - 1) (by omega)
    have el : ldc (tI row) [] (off + natOf (iv (todo.length - 1)) * 1) = ldc (tI row) [] (natOf (iv (off + (todo.length - 1))) * 1) := by rw [natOf_iv, natOf_iv]; congr 1; omega
    rw [el]
    refine ldI (by omega) ?_
    rw [eg, e1]
    refine prP_sub ⟨by omega, by omega⟩ ?_
    rw [ev]
    have kc : k < cs1.length := by omega
    have kl : k < col1.length := by omega
    have le : todo.dropLast.length = todo.length - 1 := List.length_dropLast
    refine scW_hi (by omega) (ixW_iv kl (ldI kl (prP_ned (cndP_d (fun hg => ?_) fun hg => ?_))))
    · have := hR (row, off, todo.dropLast, cs1, col1) ⟨vw.pop, wk.drop hlt e1 hg⟩ (by simp only; omega)
      simp only [le] at this
      simp only [natOf_iv, Nat.zero_mul, Nat.add_zero]
      exact this
    have hg : gI col1 k = 1 := Decidable.not_not.1 hg
    refine ixW_iv kc (ldI kc (prP_gtr (cndP_d (fun he => ?_) fun he => ?_)))
    · have he := (wk.si.gray k8 hg).1 he
      refine spec_l7Black_c hol hof k8 hlen.1 hlen.2 wk.si.f (by omega) fun cs' col' p => ?_
      have sr := wk.si.black k8 hg he p
      have hm : miss col1 1 ≤ miss col' 1 := miss_le (a := col') (b := col1) fun y hy h1 => Decidable.byContradiction fun hh => sr.ng y hy hh h1
      have := hR (row, off, todo.dropLast, cs', col') ⟨vw.pop, wk.black hlt e1 sr⟩ (by simp only; omega)
      simp only [le] at this
      simp only [natOf_iv, Nat.zero_mul, Nat.add_zero]
      exact this
    · have he := fun hx => he ((wk.si.gray k8 hg).2 hx)
      have hkl := kids_len hof (k := k) (by omega)
      obtain ⟨w1, w2⟩ := wk.white hof hol hlt e1 k8 hg he
      refine ixW_iv kl (stIw (v := 2) kl (spec_l7Kids_c hol hof k8 ?_))
      simp only [cnt_tO, cnt_tW, cnt_tP, cnt_tA, cnt_tN, cnt_tI, cnt_tS, cnt1_1, cnt1_0, cnt2_1, cnt3_1, cnt5_1, cnt6_1, cnt8_1, nx_0, nx_1, nx_2, nx_3, nx_4, nx_5, nx_6, nxc_0, nxc_1, nxc_2, nxc_3, nxc_4, nxc_5]
      simp only [natOf_iv, Nat.zero_mul, Nat.add_zero, Nat.mul_one, sub2_pl1]
      refine apW_p (flat_tI _) (by omega) ?_
      have ep := vw.pop.vw
      rw [le] at ep
      rw [ep]
      have := hR (todo.dropLast ++ kidsM os k, 0, todo.dropLast ++ kidsM os k, cs1, col1.set k 2) ⟨Vw.new _, w1⟩ w2
      have ea : tI todo.dropLast ++ tI (kidsM os k) = tI (todo.dropLast ++ kidsM os k) := by simp [tI]
      rw [ea, cnt_tI]
      exact this
  · have : todo = [] := List.length_eq_zero_iff.1 (by omega)
    subst this
    exact h _ _ wk.stop
end Go.Proofs.Ytnhicpkhkaihoaa.P
/- Collecting: what is white at the end. -/
namespace Go.Proofs.Ytnhicpkhkaihoaa.P
open Go Go.Proofs.Ytnhicpkhkaihoaa Go.Proofs.Ytnhicpkhkaihoaa.Eng
set_option linter.unusedVariables false
/-- Reached from what is written down. -/
def RB (os : List HObj) (ids : List Int) (k : Nat) : Prop := ∃ b ∈ ids, ∃ s : Nat, slotOf os b = (s : Int) ∧ Reach os s k
theorem RB.next {os : List HObj} {ids : List Int} {k : Nat} {j : Int} (h : RB os ids k) (hj : j ∈ kidsM os k) : RB os ids j.toNat := by
  obtain ⟨b, hb, s, hs, hr⟩ := h
  exact ⟨b, hb, s, hs, .step hr hj⟩
theorem RB.lt {os : List HObj} {ids : List Int} {k : Nat} (h : RB os ids k) : k < 8 := by
  obtain ⟨b, _, s, hs, hr⟩ := h
  have := slotOf_bd (l := os) (id := b) (by omega)
  exact hr.lt (by omega)
theorem RB.snoc {os : List HObj} {ids : List Int} {b : Int} {k : Nat} : RB os (ids ++ [b]) k ↔ RB os ids k ∨ ∃ s : Nat, slotOf os b = (s : Int) ∧ Reach os s k := by
  constructor
  · rintro ⟨x, hx, h⟩
    rcases List.mem_append.1 hx with hx | hx
    · exact .inl ⟨x, hx, h⟩
    · have hx : x = b := by simpa using hx
      subst hx; exact .inr h
  · rintro (⟨x, hx, h⟩ | h)
    · exact ⟨x, List.mem_append_left _ hx, h⟩
    · exact ⟨b, by simp, h⟩
structure MK (os : List HObj) (ct : Nat → Int) (ids : List Int) (cs col : List Int) : Prop where
  len : cs.length = 8 ∧ col.length = 8
  f : ∀ i, i < 8 → F64 (gI cs i)
  one : ∀ k, k < 8 → gI col k = 1 → RB os ids k
  zero : ∀ k, k < 8 → gI col k ≠ 1 → gI col k = 0 ∧ ¬ RB os ids k
  cnt : ∀ i, i < 8 → gI cs i = w64 (ct i - S os (isC col 1) i)
section
variable {os : List HObj} {ct : Nat → Int} {ids : List Int} {cs col cs' col' : List Int} {b : Int} {s : Nat}
theorem MK.none (h : MK os ct ids cs col) (hb : slotOf os b < 0) : MK os ct (ids ++ [b]) cs col := by
  refine ⟨h.len, h.f, fun k hk h1 => RB.snoc.2 (.inl (h.one k hk h1)), fun k hk h1 => ⟨(h.zero k hk h1).1, fun hr => ?_⟩, h.cnt⟩
  rcases RB.snoc.1 hr with hr | ⟨s, hs, _⟩
  · exact (h.zero k hk h1).2 hr
  · omega
theorem MK.some (h : MK os ct ids cs col) (hb : slotOf os b = (s : Int)) (hs : s < 8) (p : PaintR os 1 (-1) cs col cs' col' s) : MK os ct (ids ++ [b]) cs' col' := by
  have cl : ∀ k, Reach os s k → k < 8 ∧ gI col' k = 1 := fun k hr => hr.closed (P := fun k => k < 8 ∧ gI col' k = 1) ⟨hs, p.got⟩ fun x hx j hj => by
    refine ⟨(kids_bd hj).2.1, ?_⟩
    by_cases h1 : gI col x = 1
    · refine p.keep _ (kids_bd hj).2.1 (Decidable.byContradiction fun hn => ?_)
      exact (h.zero _ (kids_bd hj).2.1 hn).2 ((h.one x hx.1 h1).next hj)
    · exact (p.clo x hx.1 hx.2 h1).2 j hj
  refine ⟨p.len, p.f, fun k hk h1 => RB.snoc.2 ?_, fun k hk h1 => ?_, fun i hi => ?_⟩
  · by_cases h0 : gI col k = 1
    · exact .inl (h.one k hk h0)
    · exact .inr ⟨s, hb, (p.clo k hk h1 h0).1⟩
  · have e := p.only k hk h1
    have h2 : gI col k ≠ 1 := by rw [← e]; exact h1
    obtain ⟨z1, z2⟩ := h.zero k hk h2
    refine ⟨by rw [e]; exact z1, fun hr => ?_⟩
    rcases RB.snoc.1 hr with hr | ⟨s', hs', hr⟩
    · exact z2 hr
    · have : s' = s := by omega
      subst this
      exact h1 (cl k hr).2
  · rw [p.cnt i hi, h.cnt i hi, w64_add]
    congr 1
    omega
end
open Classical in
noncomputable def inRB (os : List HObj) (buf : List Int) (k : Nat) : Bool := decide (RB os buf k)
/-- What something outside holds. -/
def Out (os : List HObj) (ct : Nat → Int) (buf : List Int) (x : Nat) : Prop := x < 8 ∧ RB os buf x ∧ EX os ct (inRB os buf) x
open Classical in
noncomputable def whiteB (os : List HObj) (ct : Nat → Int) (buf : List Int) (k : Nat) : Bool := decide (RB os buf k ∧ ¬ ∃ x, Out os ct buf x ∧ Reach os x k)
theorem inRB_t {os : List HObj} {buf : List Int} {k : Nat} : inRB os buf k = true ↔ RB os buf k := by unfold inRB; simp
theorem inRB_f {os : List HObj} {buf : List Int} {k : Nat} : inRB os buf k = false ↔ ¬ RB os buf k := by unfold inRB; simp
theorem whiteB_t {os : List HObj} {ct : Nat → Int} {buf : List Int} {k : Nat} : whiteB os ct buf k = true ↔ RB os buf k ∧ ¬ ∃ x, Out os ct buf x ∧ Reach os x k := by unfold whiteB; simp
/-- While it scans. -/
structure SC (os : List HObj) (ct : Nat → Int) (buf : List Int) (ids : List Int) (cs col : List Int) : Prop where
  si : SN os ct (inRB os buf) cs col
  got : ∀ b ∈ ids, ∀ s : Nat, slotOf os b = (s : Int) → gI col s ≠ 1
  wk : ∀ k, k < 8 → gI col k = 2 → ∀ j ∈ kidsM os k, gI col j.toNat ≠ 1
section
variable {os : List HObj} {ct : Nat → Int} {buf ids : List Int} {cs col cs' col' : List Int} {b : Int} {s : Nat}
theorem SC.start (h : MK os ct buf cs col) : SC os ct buf [] cs col := by
  refine ⟨⟨h.len, h.f, fun k hk => ?_, fun k hk hc => ?_, fun i hi => ?_, fun k hk hc h0 => ?_, fun k hk h2 => ?_⟩, fun b hb => by simp at hb, fun k hk h2 => ?_⟩
  · by_cases h1 : gI col k = 1
    · exact .inr (.inl h1)
    · exact .inl (h.zero k hk h1).1
  · exact (h.zero k hk fun h1 => inRB_f.1 hc (h.one k hk h1)).1
  · rw [h.cnt i hi]
    congr 2
    refine S_congr fun k hk => ?_
    by_cases h1 : gI col k = 1
    · simp [isC, h1]
    · simp [isC, (h.zero k hk h1).1]
  · exact absurd (inRB_t.1 hc) (h.zero k hk (by omega)).2
  · have := (h.zero k hk (by omega)).1; omega
  · have := (h.zero k hk (by omega)).1; omega
theorem SC.none (h : SC os ct buf ids cs col) (hb : slotOf os b < 0) : SC os ct buf (ids ++ [b]) cs col :=
  ⟨h.si, fun x hx s hs => by
    rcases List.mem_append.1 hx with hx | hx
    · exact h.got x hx s hs
    · have hx : x = b := by simpa using hx
      subst hx; omega, h.wk⟩
theorem SC.some (h : SC os ct buf ids cs col) (hb : slotOf os b = (s : Int)) (hs : s < 8) (p : ScanR os ct (inRB os buf) col cs' col' s) : SC os ct buf (ids ++ [b]) cs' col' := by
  refine ⟨p.si, fun x hx t ht => ?_, fun k hk h2 => ?_⟩
  · rcases List.mem_append.1 hx with hx | hx
    · have := slotOf_bd (l := os) (id := x) (by omega)
      exact p.ng t (by omega) (h.got x hx t ht)
    · have hx : x = b := by simpa using hx
      subst hx
      have : t = s := by omega
      subst this; exact p.got
  · rcases p.wk k hk h2 with h3 | h3
    · exact fun j hj => p.ng _ (kids_bd hj).2.1 (h.wk k hk h3 j hj)
    · exact h3
theorem SC.stop (h : SC os ct buf buf cs col) : ∀ k, k < 8 → (gI col k = 2 ↔ whiteB os ct buf k = true) := by
  have ng : ∀ k, RB os buf k → gI col k ≠ 1 := fun k hr => by
    obtain ⟨b, hb, s, hs, hr⟩ := hr
    have hb8 := slotOf_bd (l := os) (id := b) (by omega)
    have := hr.closed (P := fun k => (k < 8 ∧ RB os buf k) ∧ gI col k ≠ 1) ⟨⟨by omega, b, hb, s, hs, .refl⟩, h.got b hb s hs⟩ fun x hx j hj => by
      refine ⟨⟨(kids_bd hj).2.1, hx.1.2.next hj⟩, ?_⟩
      rcases h.si.rng x hx.1.1 with h0 | h1 | h2
      · have := (h.si.blk x hx.1.1 (inRB_t.2 hx.1.2) h0).2 j hj; omega
      · exact absurd h1 hx.2
      · exact h.wk x hx.1.1 h2 j hj
    exact this.2
  intro k hk
  rw [whiteB_t]
  constructor
  · intro h2
    have hr : RB os buf k := Classical.byContradiction fun hn => by
      have := h.si.out k hk (inRB_f.2 hn); omega
    refine ⟨hr, ?_⟩
    rintro ⟨x, ⟨hx8, hx, he⟩, hxk⟩
    have := hxk.closed (P := fun k => (k < 8 ∧ RB os buf k) ∧ gI col k = 0) ⟨⟨hx8, hx⟩, by
      rcases h.si.rng x hx8 with h0 | h1 | h2
      · exact h0
      · exact absurd h1 (ng x hx)
      · exact absurd he (h.si.wht x hx8 h2)⟩ fun y hy j hj => ⟨⟨(kids_bd hj).2.1, hy.1.2.next hj⟩, (h.si.blk y hy.1.1 (inRB_t.2 hy.1.2) hy.2).2 j hj⟩
    omega
  · rintro ⟨hr, hn⟩
    rcases h.si.rng k hk with h0 | h1 | h2
    · obtain ⟨x, x8, xc, xe, xr⟩ := (h.si.blk k hk (inRB_t.2 hr) h0).1
      exact absurd ⟨x, ⟨x8, inRB_t.1 xc, xe⟩, xr⟩ hn
    · exact absurd h1 (ng k hr)
    · exact h2
end
/-! ### The lists of eight -/
def mk8 (f : Nat → HObj) : List HObj := (List.range 8).map f
theorem mk8_len (f : Nat → HObj) : (mk8 f).length = 8 := by simp [mk8]
theorem mk8_ob {f : Nat → HObj} {i : Nat} (h : i < 8) : ob (mk8 f) i = f i := by
  rw [← ob_eq (by rw [mk8_len]; exact h)]; simp [mk8]
theorem mk8_congr {f g : Nat → HObj} (h : ∀ i, i < 8 → f i = g i) : mk8 f = mk8 g := List.map_congr_left fun i hi => h i (List.mem_range.1 hi)
theorem mk8_self {os : List HObj} (h : os.length = 8) : os = mk8 (ob os) := by
  apply List.ext_getElem (by rw [mk8_len, h])
  intro i h1 h2
  rw [ob_eq h1, ob_eq h2, mk8_ob (by omega)]
theorem mk8_set {f : Nat → HObj} {k : Nat} {v : HObj} (hk : k < 8) : (mk8 f).set k v = mk8 fun i => if i = k then v else f i := by
  apply List.ext_getElem (by simp [mk8_len])
  intro i h1 h2
  have hi : i < 8 := by rw [mk8_len] at h2; exact h2
  rw [ob_eq h1, ob_eq h2, ob_set (by rw [mk8_len]; exact hk), mk8_ob hi, mk8_ob hi]
theorem mk8_mem {f : Nat → HObj} {o : HObj} (h : o ∈ mk8 f) : ∃ i, i < 8 ∧ o = f i := by
  obtain ⟨i, hi, rfl⟩ := List.mem_map.1 h
  exact ⟨i, List.mem_range.1 hi, rfl⟩
theorem edges_eq {a b : List HObj} {id : Int} (hl : a.length = b.length) (h : ∀ i, i < a.length → (ob a i).live = (ob b i).live ∧ (ob a i).field = (ob b i).field) : edges a id = edges b id := by
  unfold edges
  congr 1
  apply List.ext_getElem (by simp [hl])
  intro i h1 h2
  simp only [List.length_map] at h1 h2
  rw [List.getElem_map, List.getElem_map, ob_eq h1, ob_eq h2]
  unfold cntO
  rw [(h i h1).1, (h i h1).2]
theorem inE_eq {a b : List HObj} {s : Int} (hl : a.length = b.length) (h : ∀ i, i < a.length → (ob a i).live = (ob b i).live ∧ (ob a i).gen = (ob b i).gen ∧ (ob a i).field = (ob b i).field) : inE a s = inE b s := by
  unfold inE
  by_cases hs : 0 ≤ s ∧ s ≤ (a.length : Int) - 1
  · have hi := h s.toNat (by omega)
    rw [hi.1, hi.2.1, edges_eq hl fun i hi => ⟨(h i hi).1, (h i hi).2.2⟩, hl]
  · rw [if_neg (fun hh => hs hh.1), if_neg (fun hh => hs (by rw [hl]; exact hh.1))]
/-- What is left of slot i; then with its count. -/
def midO (os : List HObj) (W : Nat → Bool) (i : Nat) : HObj := if W i = true then freeO (ob os i).gen else { ob os i with purple := false }
def finO (os : List HObj) (W : Nat → Bool) (i : Nat) : HObj := if (midO os W i).live = true then { midO os W i with count := w64 (w64 ((midO os W i).holds + (midO os W i).roots) + inE (mk8 (midO os W)) i) } else midO os W i
def whites (W : Nat → Bool) : Nat → List Int := pick fun i => if W i = true then [(i : Int)] else []
def freedW (os : List HObj) (W : Nat → Bool) : Nat → List Int := pick fun i => if W i = true then [idOf i (ob os i).gen] else []
theorem pick_map {α β : Type} {f : Nat → List α} {h : α → β} (n : Nat) : (pick f n).map h = pick (fun i => (f i).map h) n := by
  induction n with
  | zero => rfl
  | succ n ih => simp only [pick, List.map_append, ih]
theorem pick_congr {α : Type} {f g : Nat → List α} {n : Nat} (h : ∀ i, i < n → f i = g i) : pick f n = pick g n := by
  induction n with
  | zero => rfl
  | succ n ih => simp only [pick]; rw [ih fun i hi => h i (by omega), h n (by omega)]
theorem freed_whites (os : List HObj) (W : Nat → Bool) (n : Nat) : (whites W n).map (fun x => idOf x (ob os x.toNat).gen) = freedW os W n := by
  unfold whites freedW
  rw [pick_map]
  refine pick_congr fun i hi => ?_
  split <;> simp
theorem mem_whites {W : Nat → Bool} {n : Nat} {x : Int} : x ∈ whites W n ↔ ∃ i : Nat, i < n ∧ x = i ∧ W i = true := by
  unfold whites
  induction n with
  | zero => simp [pick]
  | succ n ih =>
    simp only [pick, List.mem_append, ih]
    constructor
    · rintro (⟨i, h1, h2, h3⟩ | h)
      · exact ⟨i, by omega, h2, h3⟩
      · split at h
        · rename_i hw; exact ⟨n, by omega, by simpa using h, hw⟩
        · simp at h
    · rintro ⟨i, h1, h2, h3⟩
      by_cases hi : i = n
      · subst hi; right; rw [if_pos h3]; simp [h2]
      · exact .inl ⟨i, by omega, h2, h3⟩
noncomputable def collM (os : List HObj) (buf : List Int) : List HObj × List Int :=
  (mk8 (finO os (whiteB os (fun i => (ob os i).count) buf)), freedW os (whiteB os (fun i => (ob os i).count) buf) 8)
end Go.Proofs.Ytnhicpkhkaihoaa.P
