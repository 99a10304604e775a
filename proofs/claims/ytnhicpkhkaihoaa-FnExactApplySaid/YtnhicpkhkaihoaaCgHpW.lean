/- A part of the proof. -/
import Derived.Test.YtnhicpkhkaihoaaCgWireD
import Derived.Test.YtnhicpkhkaihoaaCgRowO
import Derived.Test.YtnhicpkhkaihoaaCgWireH
import Derived.Test.YtnhicpkhkaihoaaCgTxtH
/- The law of Encode over its pure text. -/
namespace Go.Proofs.Ytnhicpkhkaihoaa.P
open Go Go.Proofs.Ytnhicpkhkaihoaa Go.Proofs.Ytnhicpkhkaihoaa.Eng
set_option maxHeartbeats 4000000
set_option linter.unusedVariables false
set_option linter.unusedSimpArgs false
attribute [local irreducible] prP gP gE gF cndP ixW ldc ldg ldl stc stg scW mkW apW loopP cl2 joinP pre2 selW
variable {w0 : World}
theorem laws_szOp_c {o : Op5} {z : Int} {K : J2} (hs : (o.site.size : Int) < 2 ^ 63) (hz : 0 ≤ z ∧ z ≤ 2 ^ 62) (h0 : K [I (-1)] []) (h1 : (o.site.size : Int) ≤ z → K [I (z - o.site.size)] []) : cl2 ⟨Try.prog, w0⟩ 61 laws_szOp.sg [I o.kind, I o.a, I o.b, I o.c, .string o.site, I z] [] K := by
  refine laws_szOp.cl2 ?_
  unfold laws_szOp.txt
  repeat' (first | refine prP_lss ?_ | refine prP_lnS ?_ | refine prP_add ⟨by omega, by omega⟩ ?_ | refine cndP_d (fun _ => ?_) (fun _ => ?_))
  · exact h0
  · exact h1 (by omega)
end Go.Proofs.Ytnhicpkhkaihoaa.P
/- The laws of ReadEvent and Decode over their pure texts. -/
namespace Go.Proofs.Ytnhicpkhkaihoaa.P
open Go Go.Proofs.Ytnhicpkhkaihoaa Go.Proofs.Ytnhicpkhkaihoaa.Eng
set_option maxHeartbeats 4000000
set_option linter.unusedVariables false
set_option linter.unusedSimpArgs false
attribute [local irreducible] prP gP gE gF cndP ixW ldc ldg ldl stc stg scW mkW apW loopP cl2 joinP pre2 selW
variable {w0 : World}
theorem readE_bd (n : Int) (l : List ByteArray) (s : ByteArray) : (readE n l s).a.freed.length ≤ 8 ∧ (readE n l s).sites.length ≤ l.length + 1 ∧ (readE n l s).o.site.size ≤ s.size + 8 := by
  unfold readE
  split
  · exact ⟨Nat.zero_le _, Nat.le_succ _, Nat.zero_le _⟩
  · rename_i e he
    split
    · rename_i hok
      have h1 := show1_size n l e.1 e.2
      refine ⟨?_, h1.2, ?_⟩
      · rcases Nat.lt_or_ge 8 e.2.freed.length with h | h
        · exact absurd (show1_long h) hok.1
        · exact h
      · have hne := hok.1
        rw [show1, showR] at hne
        split at hne
        · rename_i hk
          simp only [okE, spkB, Bool.and_eq_true, decide_eq_true_eq] at hk
          simp only; omega
        · exact absurd rfl hne
    · exact ⟨Nat.zero_le _, Nat.le_succ _, Nat.zero_le _⟩
structure PenF (n : Int) (l : List ByteArray) : Prop where
  n : F64 n
  len : (l.length : Int) < 2 ^ 63
  all : ∀ s ∈ l, (s.size : Int) < 2 ^ 63
theorem laws_markAnswer_c {k v : Value} {z : Int} {l : List Int} {K : J2} (hl : (l.length : Int) < 2 ^ 62) (hz : 0 ≤ z ∧ z < 2 ^ 62) (h : K [I (z + l.length)] [tI (marks z l.length)]) : cl2 ⟨Try.prog, w0⟩ 40 laws_markAnswer.sg [k, v, I z] [tI l] K :=
  laws_markAnswer.cl2 (laws_markIntS_c hl hz h)
theorem laws_heldAnswer_c {k v : Value} {z : Int} {m : Nat} {K : J2} (hl : (m : Int) < 2 ^ 61) (hz : 0 ≤ z ∧ z < 2 ^ 61) (h : K [I (z + m)] []) : cl2 ⟨Try.prog, w0⟩ 41 laws_heldAnswer.sg [k, v, I z] [tI (marks z m)] K := by
  refine laws_heldAnswer.cl2 (laws_heldIntS_c hl hz ?_)
  repeat' (first | refine cndP_no (by first | with_reducible assumption | omega) ?_ | refine prP_lss ?_ | simp only [cnt_tO, cnt_tW, cnt_tP, cnt_tA, cnt_tN, cnt_tI, cnt_tS, cnt1_1, cnt1_0, cnt2_1, cnt3_1, cnt5_1, cnt6_1, cnt8_1, nx_0, nx_1, nx_2, nx_3, nx_4, nx_5, nx_6, nxc_0, nxc_1, nxc_2, nxc_3, nxc_4, nxc_5])
  exact h
/-! ### Decode -/
def dcd (ps : List ByteArray) : Nat → Option (List Op5 × List An × Int × List ByteArray)
  | 0 => some ([], [], 0, [])
  | i + 1 => match dcd ps i with
    | none => none
    | some q => if (readE q.2.2.1 q.2.2.2 (gS ps i)).ok = true then some (q.1 ++ [(readE q.2.2.1 q.2.2.2 (gS ps i)).o], q.2.1 ++ [(readE q.2.2.1 q.2.2.2 (gS ps i)).a], (readE q.2.2.1 q.2.2.2 (gS ps i)).last, (readE q.2.2.1 q.2.2.2 (gS ps i)).sites) else none
structure DcI (ps : List ByteArray) (q : Nat × List Op5 × List An × Int × List ByteArray) : Prop where
  eq : dcd ps q.1 = some q.2
  le : q.1 ≤ ps.length
  ol : q.2.1.length = q.1
  al : q.2.2.1.length = q.1
  sl : q.2.2.2.2.length ≤ q.1
  fr : ∀ a ∈ q.2.2.1, a.freed.length ≤ 8
theorem DcI.next {ps : List ByteArray} {q : Nat × List Op5 × List An × Int × List ByteArray} (h : DcI ps q) (hlt : q.1 < ps.length) (hok : (readE q.2.2.2.1 q.2.2.2.2 (gS ps q.1)).ok = true) :
    DcI ps (q.1 + 1, q.2.1 ++ [(readE q.2.2.2.1 q.2.2.2.2 (gS ps q.1)).o], q.2.2.1 ++ [(readE q.2.2.2.1 q.2.2.2.2 (gS ps q.1)).a], (readE q.2.2.2.1 q.2.2.2.2 (gS ps q.1)).last, (readE q.2.2.2.1 q.2.2.2.2 (gS ps q.1)).sites) := by
  obtain ⟨h1, h2, h3, h4, h5, h6⟩ := h
  have hb := readE_bd q.2.2.2.1 q.2.2.2.2 (gS ps q.1)
  refine ⟨by rw [dcd, h1]; exact if_pos hok, hlt, by simp [h3], by simp [h4], by simp only; omega, fun a ha => ?_⟩
  rcases List.mem_append.1 ha with ha | ha
  · exact h6 a ha
  · rw [List.mem_singleton.1 ha]; exact hb.1
theorem DcI.zero (ps : List ByteArray) : DcI ps (0, [], [], 0, []) := ⟨rfl, Nat.zero_le _, rfl, rfl, Nat.le_refl _, by simp⟩
end Go.Proofs.Ytnhicpkhkaihoaa.P
/- What an operation leaves is small. -/
namespace Go.Proofs.Ytnhicpkhkaihoaa.P
open Go Go.Proofs.Ytnhicpkhkaihoaa Go.Proofs.Ytnhicpkhkaihoaa.Eng
set_option linter.unusedVariables false
set_option maxHeartbeats 4000000
set_option linter.unusedVariables false
set_option linter.unusedSimpArgs false
attribute [local irreducible] prP gP gE gF cndP ixW ldc ldg ldl stc stg scW mkW apW loopP cl2 joinP pre2 selW
variable {w0 : World}
theorem loseF_ok : ∀ (f : Nat) {os : List HObj} {buf freed todo : List Int}, os.length = 8 → (∀ o ∈ os, OF o) → freed.length ≤ 9 → (loseF f os buf freed todo).1.length = 8 ∧ (∀ o ∈ (loseF f os buf freed todo).1, OF o) ∧ (loseF f os buf freed todo).2.1.length ≤ buf.length + f ∧ (loseF f os buf freed todo).2.2.length ≤ 9 := by
  intro f
  induction f with
  | zero => intro os buf freed todo h1 h2 h3; exact ⟨h1, h2, by simp [loseF], h3⟩
  | succ f ih =>
    intro os buf freed todo h1 h2 h3
    cases todo with
    | nil => exact ⟨h1, h2, by simp [loseF], h3⟩
    | cons id l =>
      simp only [loseF]
      by_cases h8 : freed.length > 8
      · rw [if_pos h8]; exact ⟨h1, h2, by simp only; omega, h3⟩
      rw [if_neg h8]
      by_cases hs : slotOf os id < 0
      · rw [if_pos hs]
        have := ih (buf := buf) (todo := l) h1 h2 h3
        exact ⟨this.1, this.2.1, by omega, this.2.2.2⟩
      rw [if_neg hs]
      have hk := slotOf_bd (l := os) (id := id) (by omega)
      have ho := h2 _ (ob_mem (l := os) (i := (slotOf os id).toNat) (by omega))
      by_cases hc : w64 ((ob os (slotOf os id).toNat).count - 1) > 0
      · rw [if_pos hc]
        by_cases hp : (ob os (slotOf os id).toNat).purple = true
        · rw [if_pos hp]
          have := ih (buf := buf) (freed := freed) (todo := l) (os := os.set (slotOf os id).toNat { ob os (slotOf os id).toNat with count := w64 ((ob os (slotOf os id).toNat).count - 1) }) (by simpa using h1) (of_set h2 ⟨ho.gen, ho.len, ho.fld⟩) h3
          exact ⟨this.1, this.2.1, Nat.le_trans this.2.2.1 (by omega), this.2.2.2⟩
        · rw [if_neg hp]
          have := ih (buf := buf ++ [id]) (freed := freed) (todo := l) (os := os.set (slotOf os id).toNat { ob os (slotOf os id).toNat with count := w64 ((ob os (slotOf os id).toNat).count - 1), purple := true }) (by simpa using h1) (of_set h2 ⟨ho.gen, ho.len, ho.fld⟩) h3
          exact ⟨this.1, this.2.1, Nat.le_trans this.2.2.1 (by rw [List.length_append, List.length_singleton]; omega), this.2.2.2⟩
      · rw [if_neg hc]
        have hb := List.length_filter_le (fun x => decide (x ≠ id)) buf
        have := ih (buf := buf.filter fun x => decide (x ≠ id)) (freed := freed ++ [id]) (todo := l ++ (ob os (slotOf os id).toNat).field.filter fun x => decide (0 ≤ x)) (os := os.set (slotOf os id).toNat (freeO (ob os (slotOf os id).toNat).gen)) (by simpa using h1) (of_set h2 (OF.free ho.gen)) (by rw [List.length_append, List.length_singleton]; omega)
        exact ⟨this.1, this.2.1, by omega, this.2.2.2⟩
/-- What every answer and every heap behind it is. -/
structure Small (h : Hp) (a : An) : Prop where
  fits : Fits h
  fr : a.freed.length ≤ 9
theorem Small.mk' {h : Hp} {a : An} (h1 : h.objs.length = 8) (h2 : ∀ o ∈ h.objs, OF o) (h3 : h.weaks.length = 8) (h4 : h.buffer.length ≤ 1000) (h5 : h.sites.length ≤ 7) (h6 : ∀ s ∈ h.sites, (s.size : Int) ≤ 1048576) (h7 : a.freed.length ≤ 9) : Small h a :=
  ⟨⟨by omega, fun o ho => by have := (h2 o ho).len; omega, by omega, by omega, by omega, h6⟩, h7⟩
theorem allocM_ok {os : List HObj} {ss : List ByteArray} {s : ByteArray} (h1 : os.length = 8) (h2 : ∀ o ∈ os, OF o) (h5 : ss.length ≤ 6) (h6 : ∀ s ∈ ss, (s.size : Int) ≤ 1048576) : (allocM os ss s).1.length = 8 ∧ (∀ o ∈ (allocM os ss s).1, OF o) ∧ (allocM os ss s).2.1.length ≤ 7 ∧ (∀ s' ∈ (allocM os ss s).2.1, (s'.size : Int) ≤ 1048576) ∧ (allocM os ss s).2.2.freed = [] := by
  unfold allocM
  by_cases hb : ¬ (1 ≤ (s.size : Int) ∧ (s.size : Int) ≤ 8)
  · rw [if_pos hb]; exact ⟨h1, h2, by simp only; omega, h6, rfl⟩
  rw [if_neg hb]
  by_cases hf : freeSlot os < 0
  · rw [if_pos hf]; exact ⟨h1, h2, by simp only; omega, h6, rfl⟩
  rw [if_neg hf]
  split
  · exact ⟨h1, h2, by simp only; omega, h6, rfl⟩
  · refine ⟨by simpa using h1, of_set h2 ⟨w64_F _, rfl, by simp [newO, none3, F64]⟩, ?_, ?_, rfl⟩
    · simp only; split
      · rw [List.length_append, List.length_singleton]; omega
      · omega
    · simp only; split
      · intro s' hs'
        rcases List.mem_append.1 hs' with h | h
        · exact h6 s' h
        · have : s' = s := by simpa using h
          subst this; omega
      · exact h6
theorem loseM_ok {os : List HObj} {buf : List Int} {x : Int} (h1 : os.length = 8) (h2 : ∀ o ∈ os, OF o) : (loseM os buf [x]).1.length = 8 ∧ (∀ o ∈ (loseM os buf [x]).1, OF o) ∧ (loseM os buf [x]).2.1.length ≤ buf.length + 38 ∧ (loseM os buf [x]).2.2.length ≤ 9 := loseF_ok _ h1 h2 (by simp)
theorem OF.holds {o : HObj} {v : Int} (h : OF o) : OF { o with holds := v } := ⟨h.gen, h.len, h.fld⟩
theorem OF.roots {o : HObj} {v : Int} (h : OF o) : OF { o with roots := v } := ⟨h.gen, h.len, h.fld⟩
theorem holdM_ok {os : List HObj} {buf : List Int} {kd id : Int} (h1 : os.length = 8) (h2 : ∀ o ∈ os, OF o) : (holdM os buf kd id).1.length = 8 ∧ (∀ o ∈ (holdM os buf kd id).1, OF o) ∧ (holdM os buf kd id).2.1.length ≤ buf.length + 38 ∧ (holdM os buf kd id).2.2.freed.length ≤ 9 := by
  unfold holdM
  by_cases hs : slotOf os id < 0
  · rw [if_pos hs]; exact ⟨h1, h2, by simp only; omega, by simp⟩
  rw [if_neg hs]
  have hk := slotOf_bd (l := os) (id := id) (by omega)
  have ho := h2 _ (ob_mem (l := os) (i := (slotOf os id).toNat) (by omega))
  have a1 : ∀ {v : HObj}, OF v → (os.set (slotOf os id).toNat v).length = 8 ∧ ∀ o ∈ os.set (slotOf os id).toNat v, OF o := fun hv => ⟨by simpa using h1, of_set h2 hv⟩
  have a2 : ∀ {v : HObj}, OF v → (gainM (os.set (slotOf os id).toNat v) id).length = 8 ∧ ∀ o ∈ gainM (os.set (slotOf os id).toNat v) id, OF o := fun hv => ⟨by rw [gainM_len]; simpa using h1, gainM_of (of_set h2 hv)⟩
  split
  · split
    · exact ⟨h1, h2, by simp only; omega, by simp⟩
    · exact ⟨(a2 (OF.holds ho)).1, (a2 (OF.holds ho)).2, by simp only; omega, by simp⟩
  · split
    · split
      · exact ⟨h1, h2, by simp only; omega, by simp⟩
      · exact ⟨(a2 (OF.roots ho)).1, (a2 (OF.roots ho)).2, by simp only; omega, by simp⟩
    · split
      · split
        · exact ⟨h1, h2, by simp only; omega, by simp⟩
        · exact loseM_ok (a1 (OF.holds ho)).1 (a1 (OF.holds ho)).2
      · split
        · exact ⟨h1, h2, by simp only; omega, by simp⟩
        · exact loseM_ok (a1 (OF.roots ho)).1 (a1 (OF.roots ho)).2
theorem storeM_ok {os : List HObj} {buf : List Int} {a b c : Int} (h1 : os.length = 8) (h2 : ∀ o ∈ os, OF o) (hc : F64 c) : (storeM os buf a b c).1.length = 8 ∧ (∀ o ∈ (storeM os buf a b c).1, OF o) ∧ (storeM os buf a b c).2.1.length ≤ buf.length + 38 ∧ (storeM os buf a b c).2.2.freed.length ≤ 9 := by
  unfold storeM
  by_cases hs : slotOf os a < 0 ∨ (c ≠ -1 ∧ slotOf os c < 0)
  · rw [if_pos hs]; exact ⟨h1, h2, by simp only; omega, by simp⟩
  rw [if_neg hs]
  have hk := slotOf_bd (l := os) (id := a) (by omega)
  have ho := h2 _ (ob_mem (l := os) (i := (slotOf os a).toNat) (by omega))
  have gl := gainM_len os c
  have gof := gainM_of (id := c) h2
  have hg := gof _ (ob_mem (l := gainM os c) (i := (slotOf os a).toNat) (by omega))
  have a1 : ((gainM os c).set (slotOf os a).toNat { ob (gainM os c) (slotOf os a).toNat with field := (ob os (slotOf os a).toNat).field.set b.toNat c }).length = 8 ∧ ∀ o ∈ (gainM os c).set (slotOf os a).toNat { ob (gainM os c) (slotOf os a).toNat with field := (ob os (slotOf os a).toNat).field.set b.toNat c }, OF o := ⟨by rw [List.length_set]; omega, of_set gof (OF.put hg (by rw [List.length_set]; exact ho.len) fun x hx => (List.mem_or_eq_of_mem_set hx).elim (ho.fld x) fun he => he ▸ hc)⟩
  split
  · exact ⟨h1, h2, by simp only; omega, by simp⟩
  · split
    · exact ⟨a1.1, a1.2, by simp only; omega, by simp⟩
    · exact loseM_ok a1.1 a1.2
theorem weakM_ok {os : List HObj} {ws : List Wk} {id : Int} : (weakM os ws id).1.length = ws.length ∧ (weakM os ws id).2.freed = [] := by
  unfold weakM
  split
  · exact ⟨rfl, rfl⟩
  · split
    · exact ⟨rfl, rfl⟩
    · exact ⟨by simp, rfl⟩
theorem handleM_ok {os : List HObj} {ws : List Wk} {kd k : Int} : (handleM os ws kd k).1.length = ws.length ∧ (handleM os ws kd k).2.freed = [] := by
  unfold handleM
  split
  · exact ⟨rfl, rfl⟩
  · split
    · exact ⟨rfl, rfl⟩
    · split
      · exact ⟨by simp, rfl⟩
      · split
        · exact ⟨rfl, rfl⟩
        · exact ⟨rfl, rfl⟩
theorem collM_ok {os : List HObj} {buf : List Int} (h1 : os.length = 8) (h2 : ∀ o ∈ os, OF o) : (collM os buf).1.length = 8 ∧ (∀ o ∈ (collM os buf).1, OF o) ∧ (collM os buf).2.length ≤ 8 := by
  unfold collM
  refine ⟨mk8_len _, fun o ho => ?_, pick_len (fun i => by split <;> simp) 8⟩
  obtain ⟨i, hi, rfl⟩ := mk8_mem ho
  have hoi := h2 _ (ob_mem (l := os) (i := i) (by omega))
  have hm : OF (midO os (whiteB os (fun i => (ob os i).count) buf) i) := by
    unfold midO
    split
    · exact OF.free hoi.gen
    · exact ⟨hoi.gen, hoi.len, hoi.fld⟩
  unfold finO
  split
  · exact ⟨hm.gen, hm.len, hm.fld⟩
  · exact hm
theorem stepM_ok {h : Hp} {o : Op5} (st : St h) (hc : F64 o.c) : Small (stepM h o).1 (stepM h o).2 := by
  have hb := st.bl; have h5 := st.sl
  unfold stepM
  split
  · obtain ⟨a1, a2, a3, a4, a5⟩ := allocM_ok (s := o.site) st.ol st.of st.sl st.ss
    exact Small.mk' a1 a2 st.wl (by simp only; omega) a3 a4 (by simp only [a5]; simp)
  · split
    · obtain ⟨a1, a2, a3, a4⟩ := holdM_ok (buf := h.buffer) (kd := o.kind) (id := o.a) st.ol st.of
      exact Small.mk' a1 a2 st.wl (by simp only; omega) (by simp only; omega) st.ss a4
    · split
      · obtain ⟨a1, a2, a3, a4⟩ := storeM_ok (buf := h.buffer) (a := o.a) (b := o.b) st.ol st.of hc
        exact Small.mk' a1 a2 st.wl (by simp only; omega) (by simp only; omega) st.ss a4
      · split
        · obtain ⟨a1, a2⟩ := weakM_ok (os := h.objs) (ws := h.weaks) (id := o.a)
          exact Small.mk' st.ol st.of (a1.trans st.wl) (by simp only; omega) (by simp only; omega) st.ss (by simp only [a2]; simp)
        · split
          · obtain ⟨a1, a2⟩ := handleM_ok (os := h.objs) (ws := h.weaks) (kd := o.kind) (k := o.a)
            exact Small.mk' st.ol st.of (a1.trans st.wl) (by simp only; omega) (by simp only; omega) st.ss (by simp only [a2]; simp)
          · split
            · obtain ⟨a1, a2, a3⟩ := collM_ok (buf := h.buffer) st.ol st.of
              exact Small.mk' a1 a2 st.wl (by simp) (by simp only; omega) st.ss (by simp only; omega)
            · exact Small.mk' st.ol st.of st.wl (by simp only; omega) (by simp only; omega) st.ss (by simp)
theorem applyM_ok {h : Hp} {o : Op5} (hf : Fits h) (hn : Nums h) (hc : F64 o.c) : Small (applyM h o).1 (applyM h o).2 := by
  by_cases hk : HeapOk h
  · rw [applyM_y hk]; exact stepM_ok (hk.st hn) hc
  · rw [applyM_n hk]; exact ⟨hf, by simp⟩
end Go.Proofs.Ytnhicpkhkaihoaa.P
/- The law of Apply. -/
namespace Go.Proofs.Ytnhicpkhkaihoaa.P
open Go Go.Proofs.Ytnhicpkhkaihoaa Go.Proofs.Ytnhicpkhkaihoaa.Eng
set_option linter.unusedVariables false
set_option maxHeartbeats 4000000
set_option linter.unusedVariables false
set_option linter.unusedSimpArgs false
attribute [local irreducible] prP gP gE gF cndP ixW ldc ldg ldl stc stg scW mkW apW loopP cl2 joinP pre2 selW
variable {w0 : World}
attribute [local irreducible] applyM mkHp szHp
theorem FnExactApply_t {a : AHeap} {b : AOp} (g : goodtoHp a) (go : goodtoOp b) {K : J2} (done : K [.bool true] []) : laws_FnExactApply.txt ⟨Try.prog, w0⟩ (I (toOp b).kind) (I (toOp b).a) (I (toOp b).b) (I (toOp b).c) (.string (toOp b).site) (tR tO (toHp a).objs) (tR tW (toHp a).weaks) (tI (toHp a).buffer) (tS (toHp a).sites) K := by
  obtain ⟨hr, hn⟩ := g
  generalize toHp a = h at hr hn ⊢
  have go : OpF (toOp b) := go
  generalize toOp b = o at go ⊢
  unfold laws_FnExactApply.txt
  refine laws_szHeap_c hr (prP_lss (cndP_yes (by omega) done)) fun r r0 r1 hf => prP_lss (cndP_no (by omega) ?_)
  refine laws_szOp_c go.s ⟨r0, by omega⟩ (prP_lss (cndP_yes (by omega) done)) fun h3 => prP_lss (cndP_no (by omega) ?_)
  have ok := applyM_ok (o := o) hf hn go.c
  refine laws_toHeap_c hf (laws_toOp_c (o := o) (spec_Apply_c hf hn go.a go.c ?_))
  obtain ⟨e, he⟩ : ∃ e, applyM h o = e := ⟨_, rfl⟩
  rw [he] at ok ⊢
  have ef := ok.fits
  have efr := ok.fr
  have g9 := hf.sz
  have g8 := ef.sz
  repeat' (first | refine laws_toHeap_c hf ?_ | refine laws_toOp_c (o := o) ?_ | (refine impl_Apply_c hf hn go.a go.c ?_; simp only [he]) | refine laws_eqHeap_c ef ?_ | refine laws_eqHeap_c hf ?_ | refine laws_eqAnswer_c (o := e.2) (by omega) ?_ | refine laws_markHeap_c hf ⟨by omega, by omega⟩ ?_ | refine laws_markHeap_c ef ⟨by omega, by omega⟩ ?_ | refine laws_markAnswer_c (by omega) ⟨by omega, by omega⟩ ?_ | refine laws_heldHeap_c ef ⟨by omega, by omega⟩ ?_ | refine laws_heldAnswer_c (by omega) ⟨by omega, by omega⟩ ?_ | refine prP_not (cndP_F ?_) | refine cndP_no (fun h => h rfl) ?_ | exact done | refine gE_x ?_ | refine gP_FF ?_ | refine gP_nf (by first | with_reducible assumption | omega) ?_ | refine pk_n (by first | with_reducible assumption | omega) rfl ?_ | refine cndP_no (by first | with_reducible assumption | omega) ?_ | refine prP_lss ?_ | refine prP_ned ?_ | refine prP_not ?_)
end Go.Proofs.Ytnhicpkhkaihoaa.P
