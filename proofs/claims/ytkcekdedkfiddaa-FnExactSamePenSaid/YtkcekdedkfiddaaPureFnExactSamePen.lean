/- The pure statement of the law FnExactSamePen: whatever the arguments are, it answers true. Nothing is asked of the arguments but that they are numbers, texts and rows as they can be read. -/
import Derived.Test.YtkcekdedkfiddaaPFnExactSamePenx3
import Derived.Test.YtkcekdedkfiddaaKit
namespace Go.Proofs.Ytkcekdedkfiddaa.Pure
open Go.RowKit Go.Proofs.Ytkcekdedkfiddaa.PFnExactSamePen Go.Proofs.YtkcekdedkfiddaaW.PrintWords Go.Proofs.YtkcekdedkfiddaaW.PrintLast Go.Proofs.Ytkcekdedkfiddaa.Kit

theorem szStringS_ev (l : List ByteArray) (hl : l.length ≤ maxLen) (hg : ∀ x ∈ l, x.size ≤ maxLen) (left : Int) (h0 : 0 ≤ left) (h1 : left ≤ 1048576) : ∃ r, Ev (fun k => laws_szStringS.f k l left) r ∧ r ≤ left ∧ (0 ≤ r → l.length ≤ 1048576 ∧ ∀ x ∈ l, x.size ≤ 1048576) :=
  sz_all ByteArray.empty l (fun (s : ByteArray) (left : Int) => some (wrap64 (left - (s.size : Int)))) (fun x => x.size ≤ 1048576) (fun k left i => laws_szStringS.l0 k l left i) (fun k left i => rfl) hl (fun x hx left h0 h1 => by
    have hs := hg x hx
    rw [maxLen_eq] at hs
    exact ⟨_, rfl, by rw [wrap_in (by omega) (by omega)]; omega, fun h => by rw [wrap_in (by omega) (by omega)] at h; omega⟩) left h0 h1
theorem toStringS_ev (l : List ByteArray) (hl : l.length ≤ 1048576) : Ev (fun k => laws_toStringS.f k l) l := by
  have key := to_loop l (⟨#[]⟩ : ByteArray) id (fun k out i => laws_toStringS.l0 k l out i) (fun out => ev_at fun k => by simp only [laws_toStringS.l0]; rw [if_neg (by omega)]) (fun i hi out r ho h => by
    refine Ev.step (f := fun k => laws_toStringS.l0 k l (out.set i (id l[i])) ((i + 1 : Nat) : Int)) (fun k => ?_) h
    simp only [laws_toStringS.l0]
    rw [if_pos (by omega), if_pos (by omega), if_pos (by omega), rdOf_nat _ _ _ hi, wrap_succ hi (by omega), Int.toNat_natCast]
    rfl)
  rw [List.map_id] at key
  refine Ev.congr (fun k => ?_) key
  simp only [laws_toStringS.f, Int.toNat_natCast]
  rw [if_pos (by omega), if_pos (by omega)]
theorem eqStringS_ev (l : List ByteArray) (hl : l.length ≤ 1048576) : Ev (fun k => laws_eqStringS.f k l l) true := by
  have key : Ev (fun k => laws_eqStringS.l0 k l l ((0 : Nat) : Int)) true := down0 (n := l.length) (P := fun i => Ev (fun k => laws_eqStringS.l0 k l l (i : Int)) true) (ev_at fun k => by simp only [laws_eqStringS.l0]; rw [if_neg (by omega)]) (fun i hi h => by
    refine Ev.step (fun k => ?_) h
    simp only [laws_eqStringS.l0]
    rw [if_pos (by omega), if_pos (by omega), if_pos (by omega), if_pos trivial, wrap_succ hi (by omega)])
  simp only [laws_eqStringS.f, if_true]
  exact key
theorem texts_ev (p : Int) (a : List ByteArray) (q : Int) (b : List ByteArray) (ha : a.length ≤ 1048576) : ∃ r, Ev (fun k => spec_SamePen.f k p a q b) r ∧ Ev (fun k => impl_SamePen.f k p a q b) r := by
  by_cases hp : ¬ p = q
  · refine ⟨false, ?_, Ev.congr (fun k => by simp only [impl_SamePen.f]; rw [if_neg hp]) (Ev.now false)⟩
    refine Ev.congr (fun k => by simp only [spec_SamePen.f]; rw [if_neg hp]) (ev_at (g := fun k => spec_SamePen.j0 k true p a q b) fun k => by simp only [spec_SamePen.j0, if_true])
  replace hp := Classical.not_not.1 hp
  by_cases hl : (a.length : Int) = (b.length : Int)
  · have key : ∃ r, Ev (fun k => spec_SamePen.l0 k ((0 : Nat) : Int) p a q b) r ∧ Ev (fun k => impl_sameTexts.l0 k a b (a.length : Int) ((0 : Nat) : Int)) r := down0 (n := a.length) (P := fun i => ∃ r, Ev (fun k => spec_SamePen.l0 k (i : Int) p a q b) r ∧ Ev (fun k => impl_sameTexts.l0 k a b (a.length : Int) (i : Int)) r) ⟨true, ev_at fun k => by simp only [spec_SamePen.l0]; rw [if_neg (by omega)], ev_at fun k => by simp only [impl_sameTexts.l0]; rw [if_neg (by omega)]⟩ (fun i hi h => by
      obtain ⟨r, h1, h2⟩ := h
      by_cases hc : (rdOf ByteArray.empty a (i : Int)).toList = (rdOf ByteArray.empty b (i : Int)).toList
      · refine ⟨r, Ev.step (fun k => ?_) h1, Ev.step (fun k => ?_) h2⟩
        · simp only [spec_SamePen.l0]
          rw [if_pos (by omega), if_pos (by omega), if_pos (by omega), if_pos hc, wrap_succ hi (by omega)]
        · simp only [impl_sameTexts.l0]
          rw [if_pos (by omega), if_pos (by omega), if_pos (by omega), if_pos (by omega), if_pos hc, wrap_succ hi (by omega)]
      · refine ⟨false, ev_at fun k => ?_, ev_at fun k => ?_⟩
        · simp only [spec_SamePen.l0]
          rw [if_pos (by omega), if_pos (by omega), if_pos (by omega), if_neg hc]
        · simp only [impl_sameTexts.l0]
          rw [if_pos (by omega), if_pos (by omega), if_pos (by omega), if_pos (by omega), if_neg hc])
    obtain ⟨r, h1, h2⟩ := key
    refine ⟨r, ?_, ?_⟩
    · refine Ev.congr (fun k => by simp only [spec_SamePen.f]; rw [if_pos hp]) (Ev.step (g := fun k => spec_SamePen.j0 k ((a.length : Int) != (b.length : Int)) p a q b) (f := fun k => spec_SamePen.l0 k 0 p a q b) (fun k => ?_) h1)
      simp only [spec_SamePen.j0, hl, bne_self_eq_false, Bool.false_eq_true, if_false]
    · refine Ev.congr (fun k => by simp only [impl_SamePen.f]; rw [if_pos hp]) (Ev.bind (g := fun k => impl_sameTexts.f k a b) (Ev.congr (fun k => by simp only [impl_sameTexts.f]; rw [if_pos hl]; rfl) h2) (Ev.now _))
  · refine ⟨false, ?_, ?_⟩
    · refine Ev.congr (fun k => by simp only [spec_SamePen.f]; rw [if_pos hp]) (ev_at (g := fun k => spec_SamePen.j0 k ((a.length : Int) != (b.length : Int)) p a q b) fun k => ?_)
      have : ((a.length : Int) != (b.length : Int)) = true := by simpa using hl
      simp only [spec_SamePen.j0, this, if_true]
    · refine Ev.congr (fun k => by simp only [impl_SamePen.f]; rw [if_pos hp]) (Ev.bind (g := fun k => impl_sameTexts.f k a b) (Ev.congr (fun k => by simp only [impl_sameTexts.f]; rw [if_neg hl]) (Ev.now false)) (Ev.now _))
theorem szPen_ev (p : Int) (l : List ByteArray) (hl : l.length ≤ maxLen) (hg : ∀ x ∈ l, x.size ≤ maxLen) (left : Int) (h0 : 0 ≤ left) (h1 : left ≤ 1048576) : ∃ r, Ev (fun k => laws_szPen.f k p l left) r ∧ r ≤ left ∧ (0 ≤ r → l.length ≤ 1048576) := by
  obtain ⟨r, e, b, c⟩ := szStringS_ev l hl hg left h0 h1
  by_cases n : r < 0
  · exact ⟨-1, Ev.bind (g := fun k => laws_szStringS.f k l left) e (by simp only [n, if_true]; exact Ev.now _), by omega, fun h => by omega⟩
  · exact ⟨r, Ev.bind (g := fun k => laws_szStringS.f k l left) e (by simp only [n, if_false]; exact Ev.now _), b, fun h => (c h).1⟩
theorem toPen_ev (p : Int) (l : List ByteArray) (hl : l.length ≤ 1048576) : Ev (fun k => laws_toPen.f k p l) (p, l) := Ev.bind (g := fun k => laws_toStringS.f k l) (toStringS_ev l hl) (Ev.now _)
theorem eqPen_ev (p : Int) (l : List ByteArray) (hl : l.length ≤ 1048576) : Ev (fun k => laws_eqPen.f k p l p l) true := by
  simp only [laws_eqPen.f, if_true]
  refine Ev.bind (eqStringS_ev l hl) ?_
  simp only [if_true]
  exact Ev.now _
theorem FnExactSamePen : ∀ (a0_0 : Int) (l0_1 : (List ByteArray)) (a1_0 : Int) (l1_1 : (List ByteArray)), (Lit.int .i64 a0_0).wf = true → (l0_1.length ≤ maxLen ∧ ∀ x ∈ l0_1, x.size ≤ maxLen) → (Lit.int .i64 a1_0).wf = true → (l1_1.length ≤ maxLen ∧ ∀ x ∈ l1_1, x.size ≤ maxLen) → ∃ k, laws_FnExactSamePen.f k a0_0 l0_1 a1_0 l1_1 = some true := by
  intro p0 l0 p1 l1 _ g0 _ g1
  suffices h : Ev (fun k => laws_FnExactSamePen.f k p0 l0 p1 l1) true from h.rounds
  obtain ⟨r0, e0, b0, c0⟩ := szPen_ev p0 l0 g0.1 g0.2 1048576 (by omega) (by omega)
  simp only [laws_FnExactSamePen.f]
  refine Ev.bind e0 ?_
  by_cases n0 : r0 < 0
  · simp only [n0, if_true]; exact Ev.now _
  simp only [n0, if_false]
  obtain ⟨r1, e1, b1, c1⟩ := szPen_ev p1 l1 g1.1 g1.2 r0 (by omega) b0
  refine Ev.bind e1 ?_
  by_cases n1 : r1 < 0
  · simp only [n1, if_true]; exact Ev.now _
  simp only [n1, if_false]
  replace c0 := c0 (by omega)
  replace c1 := c1 (by omega)
  have t0 := toPen_ev p0 l0 c0
  have t1 := toPen_ev p1 l1 c1
  refine Ev.bind t0 (Ev.bind t1 ?_)
  obtain ⟨r, s1, s2⟩ := texts_ev p0 l0 p1 l1 c0
  refine Ev.bind s1 (Ev.bind t0 (Ev.bind t1 (Ev.bind s2 ?_)))
  simp only [bne_self_eq_false, Bool.false_eq_true, if_false]
  refine Ev.bind t0 (Ev.bind (eqPen_ev _ _ c0) ?_)
  simp only [if_true]
  refine Ev.bind t1 (Ev.bind (eqPen_ev _ _ c1) ?_)
  simp only [if_true]
  exact Ev.now _

end Go.Proofs.Ytkcekdedkfiddaa.Pure
