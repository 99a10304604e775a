/- The pure statement of the law FnExactSameOps: whatever the arguments are, it answers true. Nothing is asked of the arguments but that they are numbers, texts and rows as they can be read. -/
import Derived.Test.YtkcekdedkfiddaaPFnExactSameOpsx3
import Derived.Test.YtkcekdedkfiddaaKit
namespace Go.Proofs.Ytkcekdedkfiddaa.Pure
open Go.RowKit Go.Proofs.Ytkcekdedkfiddaa.PFnExactSameOps Go.Proofs.YtkcekdedkfiddaaW.PrintWords Go.Proofs.YtkcekdedkfiddaaW.PrintLast Go.Proofs.Ytkcekdedkfiddaa.Kit

theorem rdT32 (xs : List S32) (i : Nat) (h : i < xs.length) : rd_T32 xs (i : Int) = xs[i] := by unfold rd_T32; exact getD_nat _ _ _ h
theorem rdT35 (xs : List S35) (i : Nat) (h : i < xs.length) : rd_T35 xs (i : Int) = xs[i] := by unfold rd_T35; exact getD_nat _ _ _ h
theorem szOpS_ev (l : List S32) (hl : l.length ≤ maxLen) (hg : ∀ x ∈ l, ((Lit.int .i64 x.f0).wf = true ∧ (Lit.int .i64 x.f1).wf = true ∧ (Lit.int .i64 x.f2).wf = true ∧ (Lit.int .i64 x.f3).wf = true ∧ x.f4.size ≤ maxLen)) (left : Int) (h0 : 0 ≤ left) (h1 : left ≤ 1048576) : ∃ r, Ev (fun k => laws_szOpS.f k l left) r ∧ r ≤ left ∧ (0 ≤ r → l.length ≤ 1048576 ∧ ∀ x ∈ l, (True ∧ x.f4.size ≤ 1048576)) :=
  sz_all z32 l (fun (x : S32) (left : Int) => laws_szOp.f x.f0 x.f1 x.f2 x.f3 x.f4 left) (fun x => (True ∧ x.f4.size ≤ 1048576)) (fun k left i => laws_szOpS.l0 k l left i) (fun k left i => rfl) hl (fun x hx left h0 h1 => by
    have hs := (hg x hx).2.2.2.2
    rw [maxLen_eq] at hs
    unfold laws_szOp.f
    rw [wrap_in (by omega) (by omega)]
    split
    · exact ⟨_, rfl, by omega, fun h => by omega⟩
    · exact ⟨_, rfl, by omega, fun h => ⟨trivial, by omega⟩⟩) left h0 h1
def convOp (x : S32) : S35 := ⟨x.f0, x.f1, x.f2, x.f3, x.f4⟩
theorem toOpS_ev (l : List S32) (hl : l.length ≤ 1048576) : Ev (fun k => laws_toOpS.f k l) (l.map convOp) := by
  have key := to_loop l z35 convOp (fun k out i => laws_toOpS.l0 k l out i) (fun out => ev_at fun k => by simp only [laws_toOpS.l0]; rw [if_neg (by omega)]) (fun i hi out r ho h => by
    refine Ev.step (f := fun k => laws_toOpS.l0 k l (out.set i (convOp l[i])) ((i + 1 : Nat) : Int)) (fun k => ?_) h
    simp only [laws_toOpS.l0, laws_toOp.f, Option.bind_some]
    rw [if_pos (by omega), if_pos (by omega), if_pos (by omega), rdT32 _ _ hi, wrap_succ hi (by omega), Int.toNat_natCast]
    rfl)
  refine Ev.congr (fun k => ?_) key
  simp only [laws_toOpS.f, Int.toNat_natCast]
  rw [if_pos (by omega), if_pos (by omega)]
theorem eqOpS_ev (l : List S35) (hl : l.length ≤ 1048576) : Ev (fun k => laws_eqOpS.f k l l) true := by
  have key : Ev (fun k => laws_eqOpS.l0 k l l ((0 : Nat) : Int)) true := down0 (n := l.length) (P := fun i => Ev (fun k => laws_eqOpS.l0 k l l (i : Int)) true) (ev_at fun k => by simp only [laws_eqOpS.l0]; rw [if_neg (by omega)]) (fun i hi h => by
    have hc : Ev (fun k : Nat => laws_eqOp.f l[i].f0 l[i].f1 l[i].f2 l[i].f3 l[i].f4 l[i].f0 l[i].f1 l[i].f2 l[i].f3 l[i].f4) true := ev_const (by simp [laws_eqOp.f])
    refine Ev.step (f := fun k => (laws_eqOp.f l[i].f0 l[i].f1 l[i].f2 l[i].f3 l[i].f4 l[i].f0 l[i].f1 l[i].f2 l[i].f3 l[i].f4).bind fun t => if t = true then laws_eqOpS.l0 k l l ((i + 1 : Nat) : Int) else some false) (fun k => ?_) (Ev.bind hc (by simp only [if_true]; exact h))
    simp only [laws_eqOpS.l0]
    rw [if_pos (by omega), if_pos (by omega), if_pos (by omega), rdT35 _ _ hi, wrap_succ hi (by omega)])
  simp only [laws_eqOpS.f, if_true]
  exact key
theorem sameOp_ev (a b : List S35) (ha : a.length ≤ 1048576) : ∃ r, Ev (fun k => spec_SameOps.f k a b) r ∧ Ev (fun k => impl_SameOps.f k a b) r := by
  by_cases hl : (a.length : Int) = (b.length : Int)
  · have key : ∃ r, Ev (fun k => spec_SameOps.l0 k a b ((0 : Nat) : Int)) r ∧ Ev (fun k => impl_SameOps.l0 k a b (a.length : Int) ((0 : Nat) : Int)) r := down0 (n := a.length) (P := fun i => ∃ r, Ev (fun k => spec_SameOps.l0 k a b (i : Int)) r ∧ Ev (fun k => impl_SameOps.l0 k a b (a.length : Int) (i : Int)) r) ⟨true, ev_at fun k => by simp only [spec_SameOps.l0]; rw [if_neg (by omega)], ev_at fun k => by simp only [impl_SameOps.l0]; rw [if_neg (by omega)]⟩ (fun i hi h => by
    obtain ⟨r, h1, h2⟩ := h
    by_cases hc : (!(((rd_T35 a (i : Int)).f0) == ((rd_T35 b (i : Int)).f0)) || (!(((rd_T35 a (i : Int)).f1) == ((rd_T35 b (i : Int)).f1)) || (!(((rd_T35 a (i : Int)).f2) == ((rd_T35 b (i : Int)).f2)) || (!(((rd_T35 a (i : Int)).f3) == ((rd_T35 b (i : Int)).f3)) || (!((((rd_T35 a (i : Int)).f4).toList) == (((rd_T35 b (i : Int)).f4).toList))))))) = true
    · refine ⟨false, ev_at fun k => ?_, ev_at fun k => ?_⟩
      · simp only [spec_SameOps.l0]
        rw [if_pos (by omega), if_pos (by omega), if_pos (by omega), if_pos hc]
      · simp only [impl_SameOps.l0]
        rw [if_pos (by omega), if_pos (by omega), if_pos (by omega), if_pos (by omega), if_pos hc]
    · refine ⟨r, Ev.step (fun k => ?_) h1, Ev.step (fun k => ?_) h2⟩
      · simp only [spec_SameOps.l0]
        rw [if_pos (by omega), if_pos (by omega), if_pos (by omega), if_neg hc, wrap_succ hi (by omega)]
      · simp only [impl_SameOps.l0]
        rw [if_pos (by omega), if_pos (by omega), if_pos (by omega), if_pos (by omega), if_neg hc, wrap_succ hi (by omega)])
    obtain ⟨r, h1, h2⟩ := key
    exact ⟨r, Ev.congr (fun k => by simp only [spec_SameOps.f]; rw [if_pos hl]; rfl) h1, Ev.congr (fun k => by simp only [impl_SameOps.f]; rw [if_pos hl]; rfl) h2⟩
  · exact ⟨false, Ev.congr (fun k => by simp only [spec_SameOps.f]; rw [if_neg hl]) (Ev.now false), Ev.congr (fun k => by simp only [impl_SameOps.f]; rw [if_neg hl]) (Ev.now false)⟩
theorem FnExactSameOps : ∀ (l0 : (List S32)) (l1 : (List S32)), (l0.length ≤ maxLen ∧ ∀ x ∈ l0, ((Lit.int .i64 x.f0).wf = true ∧ (Lit.int .i64 x.f1).wf = true ∧ (Lit.int .i64 x.f2).wf = true ∧ (Lit.int .i64 x.f3).wf = true ∧ x.f4.size ≤ maxLen)) → (l1.length ≤ maxLen ∧ ∀ x ∈ l1, ((Lit.int .i64 x.f0).wf = true ∧ (Lit.int .i64 x.f1).wf = true ∧ (Lit.int .i64 x.f2).wf = true ∧ (Lit.int .i64 x.f3).wf = true ∧ x.f4.size ≤ maxLen)) → ∃ k, laws_FnExactSameOps.f k l0 l1 = some true := by
  intro l0 l1 g0 g1
  suffices h : Ev (fun k => laws_FnExactSameOps.f k l0 l1) true from h.rounds
  obtain ⟨r0, e0, b0, c0⟩ := szOpS_ev l0 g0.1 g0.2 1048576 (by omega) (by omega)
  simp only [laws_FnExactSameOps.f]
  refine Ev.bind e0 ?_
  by_cases n0 : r0 < 0
  · simp only [n0, if_true]; exact Ev.now _
  simp only [n0, if_false]
  obtain ⟨r1, e1, b1, c1⟩ := szOpS_ev l1 g1.1 g1.2 r0 (by omega) b0
  refine Ev.bind e1 ?_
  by_cases n1 : r1 < 0
  · simp only [n1, if_true]; exact Ev.now _
  simp only [n1, if_false]
  replace c0 := c0 (by omega)
  replace c1 := c1 (by omega)
  have t0 := toOpS_ev l0 c0.1
  have t1 := toOpS_ev l1 c1.1
  refine Ev.bind t0 (Ev.bind t1 ?_)
  obtain ⟨r, s1, s2⟩ := sameOp_ev (l0.map convOp) (l1.map convOp) (by rw [List.length_map]; exact c0.1)
  refine Ev.bind s1 (Ev.bind t0 (Ev.bind t1 (Ev.bind s2 ?_)))
  simp only [bne_self_eq_false, Bool.false_eq_true, if_false]
  refine Ev.bind t0 (Ev.bind (eqOpS_ev _ (by rw [List.length_map]; exact c0.1)) ?_)
  simp only [if_true]
  refine Ev.bind t1 (Ev.bind (eqOpS_ev _ (by rw [List.length_map]; exact c1.1)) ?_)
  simp only [if_true]
  exact Ev.now _

end Go.Proofs.Ytkcekdedkfiddaa.Pure
