/- The pure statement of the law FnExactSameGroups: whatever the arguments are, it answers true. Nothing is asked of the arguments but that they are numbers, texts and rows as they can be read. -/
import Derived.Test.YtkcekdedkfiddaaQFnExactSameGroups3
import Derived.Test.YtkcekdedkfiddaaKit
namespace Go.Proofs.Ytkcekdedkfiddaa.Pure
open Go.RowKit Go.Proofs.Ytkcekdedkfiddaa.QFnExactSameGroups Go.Proofs.YtkcekdedkfiddaaW.PrintWords Go.Proofs.YtkcekdedkfiddaaW.PrintLast Go.Proofs.Ytkcekdedkfiddaa.Kit

theorem rdT91 (xs : List S91) (i : Nat) (h : i < xs.length) : rd_T91 xs (i : Int) = xs[i] := by unfold rd_T91; exact getD_nat _ _ _ h
theorem rdT92 (xs : List S92) (i : Nat) (h : i < xs.length) : rd_T92 xs (i : Int) = xs[i] := by unfold rd_T92; exact getD_nat _ _ _ h
theorem szIntS_ev (l : List Int) (hl : l.length ≤ maxLen) (left : Int) (h0 : 0 ≤ left) (h1 : left ≤ 1048576) : ∃ r, laws_szIntS.f l left = some r ∧ r ≤ left ∧ (0 ≤ r → l.length ≤ 1048576) := by
  rw [maxLen_eq] at hl
  unfold laws_szIntS.f
  rw [wrap_in (by omega) (by omega)]
  split
  · exact ⟨_, rfl, by omega, fun h => by omega⟩
  · exact ⟨_, rfl, by omega, fun h => by omega⟩
theorem toIntS_ev (l : List Int) (hl : l.length ≤ 1048576) : Ev (fun k => laws_toIntS.f k l) l := by
  have key := to_loop l (0 : Int) id (fun k out i => laws_toIntS.l0 k l out i) (fun out => ev_at fun k => by simp only [laws_toIntS.l0]; rw [if_neg (by omega)]) (fun i hi out r ho h => by
    refine Ev.step (f := fun k => laws_toIntS.l0 k l (out.set i (id l[i])) ((i + 1 : Nat) : Int)) (fun k => ?_) h
    simp only [laws_toIntS.l0]
    rw [if_pos (by omega), if_pos (by omega), if_pos (by omega), rd_nat _ _ hi, wrap_succ hi (by omega), Int.toNat_natCast]
    rfl)
  rw [List.map_id] at key
  refine Ev.congr (fun k => ?_) key
  simp only [laws_toIntS.f, Int.toNat_natCast]
  rw [if_pos (by omega), if_pos (by omega)]
theorem eqIntS_ev (l : List Int) (hl : l.length ≤ 1048576) : Ev (fun k => laws_eqIntS.f k l l) true := by
  have key : Ev (fun k => laws_eqIntS.l0 k l l ((0 : Nat) : Int)) true := down0 (n := l.length) (P := fun i => Ev (fun k => laws_eqIntS.l0 k l l (i : Int)) true) (ev_at fun k => by simp only [laws_eqIntS.l0]; rw [if_neg (by omega)]) (fun i hi h => by
    refine Ev.step (fun k => ?_) h
    simp only [laws_eqIntS.l0]
    rw [if_pos (by omega), if_pos (by omega), if_pos (by omega), if_pos trivial, wrap_succ hi (by omega)])
  simp only [laws_eqIntS.f, if_true]
  exact key
theorem szGroupS_ev (l : List S91) (hl : l.length ≤ maxLen) (hg : ∀ x ∈ l, ((x.f0.length ≤ maxLen ∧ ∀ y ∈ x.f0, (Lit.int .i64 y).wf = true))) (left : Int) (h0 : 0 ≤ left) (h1 : left ≤ 1048576) : ∃ r, Ev (fun k => laws_szGroupS.f k l left) r ∧ r ≤ left ∧ (0 ≤ r → l.length ≤ 1048576 ∧ ∀ x ∈ l, (True ∧ x.f0.length ≤ 1048576)) :=
  sz_all z91 l (fun (x : S91) (left : Int) => laws_szGroup.f x.f0 left) (fun x => (True ∧ x.f0.length ≤ 1048576)) (fun k left i => laws_szGroupS.l0 k l left i) (fun k left i => rfl) hl (fun x hx left h0 h1 => by
    obtain ⟨r, hr, hrl, hrg⟩ := szIntS_ev x.f0 (hg x hx).1 left h0 h1
    unfold laws_szGroup.f
    rw [hr]
    simp only [Option.bind_some]
    split
    · exact ⟨_, rfl, by omega, fun h => by omega⟩
    · exact ⟨_, rfl, by omega, fun h => ⟨trivial, hrg h⟩⟩) left h0 h1
def convGroup (x : S91) : S92 := ⟨x.f0⟩
theorem toGroupS_ev (l : List S91) (hl : l.length ≤ 1048576) (hg : ∀ x ∈ l, (True ∧ x.f0.length ≤ 1048576)) : Ev (fun k => laws_toGroupS.f k l) (l.map convGroup) := by
  have key := to_loop l z92 convGroup (fun k out i => laws_toGroupS.l0 k l out i) (fun out => ev_at fun k => by simp only [laws_toGroupS.l0]; rw [if_neg (by omega)]) (fun i hi out r ho h => by
    have hx := (hg l[i] (List.getElem_mem hi)).2
    have hc : Ev (fun k => laws_toGroup.f k l[i].f0) l[i].f0 := by
      unfold laws_toGroup.f
      exact Ev.bind (toIntS_ev _ hx) (Ev.now _)
    refine Ev.step (f := fun k => (laws_toGroup.f k l[i].f0).bind fun t => laws_toGroupS.l0 k l (out.set i (⟨t⟩ : S92)) ((i + 1 : Nat) : Int)) (fun k => ?_) (Ev.bind hc h)
    simp only [laws_toGroupS.l0]
    rw [if_pos (by omega), if_pos (by omega), rdT91 _ _ hi, wrap_succ hi (by omega), Int.toNat_natCast]
    simp only [if_pos (show (i : Int) < (out.length : Int) by omega)])
  refine Ev.congr (fun k => ?_) key
  simp only [laws_toGroupS.f, Int.toNat_natCast]
  rw [if_pos (by omega), if_pos (by omega)]
theorem eqGroupS_ev (l : List S92) (hl : l.length ≤ 1048576) (hg : ∀ x ∈ l, (True ∧ x.f0.length ≤ 1048576)) : Ev (fun k => laws_eqGroupS.f k l l) true := by
  have key : Ev (fun k => laws_eqGroupS.l0 k l l ((0 : Nat) : Int)) true := down0 (n := l.length) (P := fun i => Ev (fun k => laws_eqGroupS.l0 k l l (i : Int)) true) (ev_at fun k => by simp only [laws_eqGroupS.l0]; rw [if_neg (by omega)]) (fun i hi h => by
    have hx := (hg l[i] (List.getElem_mem hi)).2
    have hc : Ev (fun k => laws_eqGroup.f k l[i].f0 l[i].f0) true := by
      unfold laws_eqGroup.f
      try simp only [bne_self_eq_false, Bool.false_eq_true, if_false, if_true]
      refine Ev.bind (eqIntS_ev _ hx) ?_
      simp only [if_true]
      exact Ev.now _
    refine Ev.step (f := fun k => (laws_eqGroup.f k l[i].f0 l[i].f0).bind fun t => if t = true then laws_eqGroupS.l0 k l l ((i + 1 : Nat) : Int) else some false) (fun k => ?_) (Ev.bind hc (by simp only [if_true]; exact h))
    simp only [laws_eqGroupS.l0]
    rw [if_pos (by omega), if_pos (by omega), if_pos (by omega), rdT92 _ _ hi, wrap_succ hi (by omega)])
  simp only [laws_eqGroupS.f, if_true]
  exact key
theorem sameInts_ev (a b : List Int) (ha : a.length ≤ 1048576) : ∃ r, Ev (fun k => spec_l5Ints.f k a b) r ∧ Ev (fun k => impl_sameInts.f k a b) r := by
  by_cases hl : (a.length : Int) = (b.length : Int)
  · have key : ∃ r, Ev (fun k => spec_l5Ints.l0 k a b ((0 : Nat) : Int)) r ∧ Ev (fun k => impl_sameInts.l0 k a b (a.length : Int) ((0 : Nat) : Int)) r := down0 (n := a.length) (P := fun i => ∃ r, Ev (fun k => spec_l5Ints.l0 k a b (i : Int)) r ∧ Ev (fun k => impl_sameInts.l0 k a b (a.length : Int) (i : Int)) r) ⟨true, ev_at fun k => by simp only [spec_l5Ints.l0]; rw [if_neg (by omega)], ev_at fun k => by simp only [impl_sameInts.l0]; rw [if_neg (by omega)]⟩ (fun i hi h => by
    obtain ⟨r, h1, h2⟩ := h
    by_cases hc : ¬((rd a (i : Int)) = (rd b (i : Int)))
    · refine ⟨false, ev_at fun k => ?_, ev_at fun k => ?_⟩
      · simp only [spec_l5Ints.l0]
        rw [if_pos (by omega), if_pos (by omega), if_pos (by omega), if_neg hc]
      · simp only [impl_sameInts.l0]
        rw [if_pos (by omega), if_pos (by omega), if_pos (by omega), if_pos (by omega), if_neg hc]
    · refine ⟨r, Ev.step (fun k => ?_) h1, Ev.step (fun k => ?_) h2⟩
      · simp only [spec_l5Ints.l0]
        rw [if_pos (by omega), if_pos (by omega), if_pos (by omega), if_pos (Classical.not_not.1 hc), wrap_succ hi (by omega)]
      · simp only [impl_sameInts.l0]
        rw [if_pos (by omega), if_pos (by omega), if_pos (by omega), if_pos (by omega), if_pos (Classical.not_not.1 hc), wrap_succ hi (by omega)])
    obtain ⟨r, h1, h2⟩ := key
    exact ⟨r, Ev.congr (fun k => by simp only [spec_l5Ints.f]; rw [if_pos hl]; rfl) h1, Ev.congr (fun k => by simp only [impl_sameInts.f]; rw [if_pos hl]; rfl) h2⟩
  · exact ⟨false, Ev.congr (fun k => by simp only [spec_l5Ints.f]; rw [if_neg hl]) (Ev.now false), Ev.congr (fun k => by simp only [impl_sameInts.f]; rw [if_neg hl]) (Ev.now false)⟩
theorem sameGroup_ev (a b : List S92) (ha : a.length ≤ 1048576) (ga : ∀ x ∈ a, (True ∧ x.f0.length ≤ 1048576)) : ∃ r, Ev (fun k => spec_SameGroups.f k a b) r ∧ Ev (fun k => impl_SameGroups.f k a b) r := by
  by_cases hl : (a.length : Int) = (b.length : Int)
  · have key : ∃ r, Ev (fun k => spec_SameGroups.l0 k a b ((0 : Nat) : Int)) r ∧ Ev (fun k => impl_SameGroups.l0 k a b (a.length : Int) ((0 : Nat) : Int)) r := down0 (n := a.length) (P := fun i => ∃ r, Ev (fun k => spec_SameGroups.l0 k a b (i : Int)) r ∧ Ev (fun k => impl_SameGroups.l0 k a b (a.length : Int) (i : Int)) r) ⟨true, ev_at fun k => by simp only [spec_SameGroups.l0]; rw [if_neg (by omega)], ev_at fun k => by simp only [impl_SameGroups.l0]; rw [if_neg (by omega)]⟩ (fun i hi h => by
    obtain ⟨r, h1, h2⟩ := h
    obtain ⟨q, q1, q2⟩ := sameInts_ev a[i].f0 b[i].f0 (ga _ (List.getElem_mem hi)).2
    have hb' : i < b.length := by omega
    cases q with
    | true =>
      refine ⟨r, Ev.step (f := fun k => (spec_l5Ints.f k a[i].f0 b[i].f0).bind fun t => if t = true then spec_SameGroups.l0 k a b ((i + 1 : Nat) : Int) else some false) (fun k => ?_) (Ev.bind q1 (by simp only [if_true]; exact h1)),
        Ev.step (f := fun k => (impl_sameInts.f k a[i].f0 b[i].f0).bind fun t => if t = true then impl_SameGroups.l0 k a b (a.length : Int) ((i + 1 : Nat) : Int) else some false) (fun k => ?_) (Ev.bind q2 (by simp only [if_true]; exact h2))⟩
      · simp only [spec_SameGroups.l0]
        rw [if_pos (by omega), if_pos (by omega), if_pos (by omega), rdT92 _ _ hi, rdT92 _ _ hb', wrap_succ hi (by omega)]
      · simp only [impl_SameGroups.l0]
        rw [if_pos (by omega), if_pos (by omega), if_pos (by omega), if_pos (by omega), rdT92 _ _ hi, rdT92 _ _ hb', wrap_succ hi (by omega)]
    | false =>
      refine ⟨false, Ev.step (f := fun k => (spec_l5Ints.f k a[i].f0 b[i].f0).bind fun t => if t = true then spec_SameGroups.l0 k a b ((i + 1 : Nat) : Int) else some false) (fun k => ?_) (Ev.bind q1 (by simp only [Bool.false_eq_true, if_false]; exact Ev.now _)),
        Ev.step (f := fun k => (impl_sameInts.f k a[i].f0 b[i].f0).bind fun t => if t = true then impl_SameGroups.l0 k a b (a.length : Int) ((i + 1 : Nat) : Int) else some false) (fun k => ?_) (Ev.bind q2 (by simp only [Bool.false_eq_true, if_false]; exact Ev.now _))⟩
      · simp only [spec_SameGroups.l0]
        rw [if_pos (by omega), if_pos (by omega), if_pos (by omega), rdT92 _ _ hi, rdT92 _ _ hb', wrap_succ hi (by omega)]
      · simp only [impl_SameGroups.l0]
        rw [if_pos (by omega), if_pos (by omega), if_pos (by omega), if_pos (by omega), rdT92 _ _ hi, rdT92 _ _ hb', wrap_succ hi (by omega)])
    obtain ⟨r, h1, h2⟩ := key
    exact ⟨r, Ev.congr (fun k => by simp only [spec_SameGroups.f]; rw [if_pos hl]; rfl) h1, Ev.congr (fun k => by simp only [impl_SameGroups.f]; rw [if_pos hl]; rfl) h2⟩
  · exact ⟨false, Ev.congr (fun k => by simp only [spec_SameGroups.f]; rw [if_neg hl]) (Ev.now false), Ev.congr (fun k => by simp only [impl_SameGroups.f]; rw [if_neg hl]) (Ev.now false)⟩
theorem FnExactSameGroups : ∀ (l0 : (List S91)) (l1 : (List S91)), (l0.length ≤ maxLen ∧ ∀ x0 ∈ l0, ((x0.f0.length ≤ maxLen ∧ ∀ x1 ∈ x0.f0, (Lit.int .i64 x1).wf = true))) → (l1.length ≤ maxLen ∧ ∀ x0 ∈ l1, ((x0.f0.length ≤ maxLen ∧ ∀ x1 ∈ x0.f0, (Lit.int .i64 x1).wf = true))) → ∃ k, laws_FnExactSameGroups.f k l0 l1 = some true := by
  intro l0 l1 g0 g1
  suffices h : Ev (fun k => laws_FnExactSameGroups.f k l0 l1) true from h.rounds
  obtain ⟨r0, e0, b0, c0⟩ := szGroupS_ev l0 g0.1 g0.2 1048576 (by omega) (by omega)
  simp only [laws_FnExactSameGroups.f]
  refine Ev.bind e0 ?_
  by_cases n0 : r0 < 0
  · simp only [n0, if_true]; exact Ev.now _
  simp only [n0, if_false]
  obtain ⟨r1, e1, b1, c1⟩ := szGroupS_ev l1 g1.1 g1.2 r0 (by omega) b0
  refine Ev.bind e1 ?_
  by_cases n1 : r1 < 0
  · simp only [n1, if_true]; exact Ev.now _
  simp only [n1, if_false]
  replace c0 := c0 (by omega)
  replace c1 := c1 (by omega)
  have t0 := toGroupS_ev l0 c0.1 c0.2
  have t1 := toGroupS_ev l1 c1.1 c1.2
  refine Ev.bind t0 (Ev.bind t1 ?_)
  obtain ⟨r, s1, s2⟩ := sameGroup_ev (l0.map convGroup) (l1.map convGroup) (by rw [List.length_map]; exact c0.1) (by intro x hx; obtain ⟨y, hy, rfl⟩ := List.mem_map.1 hx; exact c0.2 y hy)
  refine Ev.bind s1 (Ev.bind t0 (Ev.bind t1 (Ev.bind s2 ?_)))
  simp only [bne_self_eq_false, Bool.false_eq_true, if_false]
  refine Ev.bind t0 (Ev.bind (eqGroupS_ev _ (by rw [List.length_map]; exact c0.1) (by intro x hx; obtain ⟨y, hy, rfl⟩ := List.mem_map.1 hx; exact c0.2 y hy)) ?_)
  simp only [if_true]
  refine Ev.bind t1 (Ev.bind (eqGroupS_ev _ (by rw [List.length_map]; exact c1.1) (by intro x hx; obtain ⟨y, hy, rfl⟩ := List.mem_map.1 hx; exact c1.2 y hy)) ?_)
  simp only [if_true]
  exact Ev.now _

end Go.Proofs.Ytkcekdedkfiddaa.Pure
