/- The pure statement of the law FnExactSameRows: whatever the arguments are, it answers true. Nothing is asked of the arguments but that they are numbers, texts and rows as they can be read. -/
import Derived.Test.YtkcekdedkfiddaaPFnExactSameRowsx3
import Derived.Test.YtkcekdedkfiddaaKit
namespace Go.Proofs.Ytkcekdedkfiddaa.Pure
open Go.RowKit Go.Proofs.Ytkcekdedkfiddaa.PFnExactSameRows Go.Proofs.YtkcekdedkfiddaaW.PrintWords Go.Proofs.YtkcekdedkfiddaaW.PrintLast Go.Proofs.Ytkcekdedkfiddaa.Kit

theorem rdT25 (xs : List S25) (i : Nat) (h : i < xs.length) : rd_T25 xs (i : Int) = xs[i] := by unfold rd_T25; exact getD_nat _ _ _ h
theorem rdT28 (xs : List S28) (i : Nat) (h : i < xs.length) : rd_T28 xs (i : Int) = xs[i] := by unfold rd_T28; exact getD_nat _ _ _ h
theorem szRowS_ev (l : List S25) (hl : l.length ≤ maxLen) (hg : ∀ x ∈ l, (x.f0.size ≤ maxLen ∧ (Lit.int .i64 x.f1).wf = true ∧ (Lit.int .i64 x.f2).wf = true ∧ (Lit.int .i64 x.f3).wf = true ∧ (Lit.int .i64 x.f4).wf = true ∧ (Lit.int .i64 x.f5).wf = true ∧ (Lit.int .i64 x.f6).wf = true)) (left : Int) (h0 : 0 ≤ left) (h1 : left ≤ 1048576) : ∃ r, Ev (fun k => laws_szRowS.f k l left) r ∧ r ≤ left ∧ (0 ≤ r → l.length ≤ 1048576 ∧ ∀ x ∈ l, (True ∧ x.f0.size ≤ 1048576)) :=
  sz_all z25 l (fun (x : S25) (left : Int) => laws_szRow.f x.f0 x.f1 x.f2 x.f3 x.f4 x.f5 x.f6 left) (fun x => (True ∧ x.f0.size ≤ 1048576)) (fun k left i => laws_szRowS.l0 k l left i) (fun k left i => rfl) hl (fun x hx left h0 h1 => by
    have hs := (hg x hx).1
    rw [maxLen_eq] at hs
    unfold laws_szRow.f
    rw [wrap_in (by omega) (by omega)]
    split
    · exact ⟨_, rfl, by omega, fun h => by omega⟩
    · exact ⟨_, rfl, by omega, fun h => ⟨trivial, by omega⟩⟩) left h0 h1
def convRow (x : S25) : S28 := ⟨x.f0, x.f1, x.f2, x.f3, x.f4, x.f5, x.f6⟩
theorem toRowS_ev (l : List S25) (hl : l.length ≤ 1048576) : Ev (fun k => laws_toRowS.f k l) (l.map convRow) := by
  have key := to_loop l z28 convRow (fun k out i => laws_toRowS.l0 k l out i) (fun out => ev_at fun k => by simp only [laws_toRowS.l0]; rw [if_neg (by omega)]) (fun i hi out r ho h => by
    refine Ev.step (f := fun k => laws_toRowS.l0 k l (out.set i (convRow l[i])) ((i + 1 : Nat) : Int)) (fun k => ?_) h
    simp only [laws_toRowS.l0, laws_toRow.f, Option.bind_some]
    rw [if_pos (by omega), if_pos (by omega), if_pos (by omega), rdT25 _ _ hi, wrap_succ hi (by omega), Int.toNat_natCast]
    rfl)
  refine Ev.congr (fun k => ?_) key
  simp only [laws_toRowS.f, Int.toNat_natCast]
  rw [if_pos (by omega), if_pos (by omega)]
theorem eqRowS_ev (l : List S28) (hl : l.length ≤ 1048576) : Ev (fun k => laws_eqRowS.f k l l) true := by
  have key : Ev (fun k => laws_eqRowS.l0 k l l ((0 : Nat) : Int)) true := down0 (n := l.length) (P := fun i => Ev (fun k => laws_eqRowS.l0 k l l (i : Int)) true) (ev_at fun k => by simp only [laws_eqRowS.l0]; rw [if_neg (by omega)]) (fun i hi h => by
    have hc : Ev (fun k : Nat => laws_eqRow.f l[i].f0 l[i].f1 l[i].f2 l[i].f3 l[i].f4 l[i].f5 l[i].f6 l[i].f0 l[i].f1 l[i].f2 l[i].f3 l[i].f4 l[i].f5 l[i].f6) true := ev_const (by simp [laws_eqRow.f])
    refine Ev.step (f := fun k => (laws_eqRow.f l[i].f0 l[i].f1 l[i].f2 l[i].f3 l[i].f4 l[i].f5 l[i].f6 l[i].f0 l[i].f1 l[i].f2 l[i].f3 l[i].f4 l[i].f5 l[i].f6).bind fun t => if t = true then laws_eqRowS.l0 k l l ((i + 1 : Nat) : Int) else some false) (fun k => ?_) (Ev.bind hc (by simp only [if_true]; exact h))
    simp only [laws_eqRowS.l0]
    rw [if_pos (by omega), if_pos (by omega), if_pos (by omega), rdT28 _ _ hi, wrap_succ hi (by omega)])
  simp only [laws_eqRowS.f, if_true]
  exact key
theorem sameRow_ev (a b : List S28) (ha : a.length ≤ 1048576) : ∃ r, Ev (fun k => spec_SameRows.f k a b) r ∧ Ev (fun k => impl_SameRows.f k a b) r := by
  by_cases hl : (a.length : Int) = (b.length : Int)
  · have key : ∃ r, Ev (fun k => spec_SameRows.l0 k a b ((0 : Nat) : Int)) r ∧ Ev (fun k => impl_SameRows.l0 k a b (a.length : Int) ((0 : Nat) : Int)) r := down0 (n := a.length) (P := fun i => ∃ r, Ev (fun k => spec_SameRows.l0 k a b (i : Int)) r ∧ Ev (fun k => impl_SameRows.l0 k a b (a.length : Int) (i : Int)) r) ⟨true, ev_at fun k => by simp only [spec_SameRows.l0]; rw [if_neg (by omega)], ev_at fun k => by simp only [impl_SameRows.l0]; rw [if_neg (by omega)]⟩ (fun i hi h => by
    obtain ⟨r, h1, h2⟩ := h
    by_cases hc : (!((((rd_T28 a (i : Int)).f0).toList) == (((rd_T28 b (i : Int)).f0).toList)) || (!(((rd_T28 a (i : Int)).f1) == ((rd_T28 b (i : Int)).f1)) || (!(((rd_T28 a (i : Int)).f2) == ((rd_T28 b (i : Int)).f2)) || (!(((rd_T28 a (i : Int)).f3) == ((rd_T28 b (i : Int)).f3)) || (!(((rd_T28 a (i : Int)).f4) == ((rd_T28 b (i : Int)).f4)) || (!(((rd_T28 a (i : Int)).f5) == ((rd_T28 b (i : Int)).f5)) || (!(((rd_T28 a (i : Int)).f6) == ((rd_T28 b (i : Int)).f6))))))))) = true
    · refine ⟨false, ev_at fun k => ?_, ev_at fun k => ?_⟩
      · simp only [spec_SameRows.l0]
        rw [if_pos (by omega), if_pos (by omega), if_pos (by omega), if_pos hc]
      · simp only [impl_SameRows.l0]
        rw [if_pos (by omega), if_pos (by omega), if_pos (by omega), if_pos (by omega), if_pos hc]
    · refine ⟨r, Ev.step (fun k => ?_) h1, Ev.step (fun k => ?_) h2⟩
      · simp only [spec_SameRows.l0]
        rw [if_pos (by omega), if_pos (by omega), if_pos (by omega), if_neg hc, wrap_succ hi (by omega)]
      · simp only [impl_SameRows.l0]
        rw [if_pos (by omega), if_pos (by omega), if_pos (by omega), if_pos (by omega), if_neg hc, wrap_succ hi (by omega)])
    obtain ⟨r, h1, h2⟩ := key
    exact ⟨r, Ev.congr (fun k => by simp only [spec_SameRows.f]; rw [if_pos hl]; rfl) h1, Ev.congr (fun k => by simp only [impl_SameRows.f]; rw [if_pos hl]; rfl) h2⟩
  · exact ⟨false, Ev.congr (fun k => by simp only [spec_SameRows.f]; rw [if_neg hl]) (Ev.now false), Ev.congr (fun k => by simp only [impl_SameRows.f]; rw [if_neg hl]) (Ev.now false)⟩
theorem FnExactSameRows : ∀ (l0 : (List S25)) (l1 : (List S25)), (l0.length ≤ maxLen ∧ ∀ x ∈ l0, (x.f0.size ≤ maxLen ∧ (Lit.int .i64 x.f1).wf = true ∧ (Lit.int .i64 x.f2).wf = true ∧ (Lit.int .i64 x.f3).wf = true ∧ (Lit.int .i64 x.f4).wf = true ∧ (Lit.int .i64 x.f5).wf = true ∧ (Lit.int .i64 x.f6).wf = true)) → (l1.length ≤ maxLen ∧ ∀ x ∈ l1, (x.f0.size ≤ maxLen ∧ (Lit.int .i64 x.f1).wf = true ∧ (Lit.int .i64 x.f2).wf = true ∧ (Lit.int .i64 x.f3).wf = true ∧ (Lit.int .i64 x.f4).wf = true ∧ (Lit.int .i64 x.f5).wf = true ∧ (Lit.int .i64 x.f6).wf = true)) → ∃ k, laws_FnExactSameRows.f k l0 l1 = some true := by
  intro l0 l1 g0 g1
  suffices h : Ev (fun k => laws_FnExactSameRows.f k l0 l1) true from h.rounds
  obtain ⟨r0, e0, b0, c0⟩ := szRowS_ev l0 g0.1 g0.2 1048576 (by omega) (by omega)
  simp only [laws_FnExactSameRows.f]
  refine Ev.bind e0 ?_
  by_cases n0 : r0 < 0
  · simp only [n0, if_true]; exact Ev.now _
  simp only [n0, if_false]
  obtain ⟨r1, e1, b1, c1⟩ := szRowS_ev l1 g1.1 g1.2 r0 (by omega) b0
  refine Ev.bind e1 ?_
  by_cases n1 : r1 < 0
  · simp only [n1, if_true]; exact Ev.now _
  simp only [n1, if_false]
  replace c0 := c0 (by omega)
  replace c1 := c1 (by omega)
  have t0 := toRowS_ev l0 c0.1
  have t1 := toRowS_ev l1 c1.1
  refine Ev.bind t0 (Ev.bind t1 ?_)
  obtain ⟨r, s1, s2⟩ := sameRow_ev (l0.map convRow) (l1.map convRow) (by rw [List.length_map]; exact c0.1)
  refine Ev.bind s1 (Ev.bind t0 (Ev.bind t1 (Ev.bind s2 ?_)))
  simp only [bne_self_eq_false, Bool.false_eq_true, if_false]
  refine Ev.bind t0 (Ev.bind (eqRowS_ev _ (by rw [List.length_map]; exact c0.1)) ?_)
  simp only [if_true]
  refine Ev.bind t1 (Ev.bind (eqRowS_ev _ (by rw [List.length_map]; exact c1.1)) ?_)
  simp only [if_true]
  exact Ev.now _

end Go.Proofs.Ytkcekdedkfiddaa.Pure
