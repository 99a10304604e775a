/- The pure statement of the law FnExactSiteName: whatever the arguments are, it answers true. Nothing is asked of the arguments but that they are numbers, texts and rows as they can be read. -/
import Derived.Test.YtkcekdedkfiddaaPFnExactSiteNamex1
import Derived.Test.YtkcekdedkfiddaaKit
namespace Go.Proofs.Ytkcekdedkfiddaa.Pure
open Go.RowKit Go.Proofs.Ytkcekdedkfiddaa.PFnExactSiteName Go.Proofs.YtkcekdedkfiddaaW.PrintWords Go.Proofs.YtkcekdedkfiddaaW.PrintLast Go.Proofs.Ytkcekdedkfiddaa.Kit

theorem szStringS_ev (l : List ByteArray) (hl : l.length ≤ maxLen) (hg : ∀ x ∈ l, x.size ≤ maxLen) (left : Int) (h0 : 0 ≤ left) (h1 : left ≤ 1048576) : ∃ r, Ev (fun k => laws_szStringS.f k l left) r ∧ r ≤ left ∧ (0 ≤ r → l.length ≤ 1048576 ∧ ∀ x ∈ l, x.size ≤ 1048576) :=
  sz_all ByteArray.empty l (fun (s : ByteArray) (left : Int) => some (wrap64 (left - (s.size : Int)))) (fun x => x.size ≤ 1048576) (fun k left i => laws_szStringS.l0 k l left i) (fun k left i => rfl) hl (fun x hx left h0 h1 => by
    have hs := hg x hx
    rw [maxLen_eq] at hs
    exact ⟨_, rfl, by rw [wrap_in (by omega) (by omega)]; omega, fun h => by rw [wrap_in (by omega) (by omega)] at h; omega⟩) left h0 h1
theorem toStringS_ev (l : List ByteArray) (hl : l.length ≤ 1048576) : Ev (fun k => laws_toStringS.f k l) l := by
  have key := to_loop l (⟨#[]⟩ : ByteArray) id (fun k out i => laws_toStringS.l0 k l out i) (fun out => ev_at fun k => by simp only [laws_toStringS.l0]; rw [if_neg (by omega)]) (fun i hi out r ho h => by
    refine Ev.step (f := fun k => laws_toStringS.l0 k l (out.set i (id l[i])) ((i + 1 : Nat) : Int)) (fun k => ?_) h
    simp only [laws_toStringS.l0]
    rw [if_pos (by omega), if_pos (by omega), if_pos (by omega), rdOf_nat _ _ _ hi, wrap_succ hi (by omega), Int.toNat_natCast]
    rfl)
  rw [List.map_id] at key
  refine Ev.congr (fun k => ?_) key
  simp only [laws_toStringS.f, Int.toNat_natCast]
  rw [if_pos (by omega), if_pos (by omega)]
theorem eqStringS_ev (l : List ByteArray) (hl : l.length ≤ 1048576) : Ev (fun k => laws_eqStringS.f k l l) true := by
  have key : Ev (fun k => laws_eqStringS.l0 k l l ((0 : Nat) : Int)) true := down0 (n := l.length) (P := fun i => Ev (fun k => laws_eqStringS.l0 k l l (i : Int)) true) (ev_at fun k => by simp only [laws_eqStringS.l0]; rw [if_neg (by omega)]) (fun i hi h => by
    refine Ev.step (fun k => ?_) h
    simp only [laws_eqStringS.l0]
    rw [if_pos (by omega), if_pos (by omega), if_pos (by omega), if_pos trivial, wrap_succ hi (by omega)])
  simp only [laws_eqStringS.f, if_true]
  exact key
theorem site_some (l : List ByteArray) (hl : l.length ≤ 1048576) (n : Int) : ∃ r, spec_SiteName.f l n = some r ∧ impl_SiteName.f l n = some r := by
  have e : spec_SiteName.f = impl_SiteName.f := rfl
  rw [e]
  suffices h : ∃ r, impl_SiteName.f l n = some r by obtain ⟨r, h⟩ := h; exact ⟨r, h, h⟩
  unfold impl_SiteName.f impl_in.f
  rw [wrap_in (by omega) (by omega)]
  by_cases h0 : n ≥ 0
  · rw [if_pos h0]
    by_cases h1 : n ≤ (l.length : Int) - 1
    · simp only [Option.bind_some, decide_eq_true h1, if_true]
      rw [if_pos h0, if_pos (by omega)]
      exact ⟨_, rfl⟩
    · simp only [Option.bind_some, decide_eq_false h1, Bool.false_eq_true, if_false]
      exact ⟨_, rfl⟩
  · rw [if_neg h0]
    simp only [Option.bind_some, Bool.false_eq_true, if_false]
    exact ⟨_, rfl⟩
theorem FnExactSiteName : ∀ (l0 : (List ByteArray)) (a1 : Int), (l0.length ≤ maxLen ∧ ∀ x ∈ l0, x.size ≤ maxLen) → (Lit.int .i64 a1).wf = true → ∃ k, laws_FnExactSiteName.f k l0 a1 = some true := by
  intro l0 a1 g0 g1
  suffices h : Ev (fun k => laws_FnExactSiteName.f k l0 a1) true from h.rounds
  obtain ⟨r0, e0, b0, c0⟩ := szStringS_ev l0 g0.1 g0.2 1048576 (by omega) (by omega)
  simp only [laws_FnExactSiteName.f]
  refine Ev.bind e0 ?_
  by_cases n0 : r0 < 0
  · simp only [n0, if_true]; exact Ev.now _
  simp only [n0, if_false]
  replace c0 := c0 (by omega)
  have t0 := toStringS_ev l0 c0.1
  obtain ⟨r, s1, s2⟩ := site_some l0 c0.1 a1
  refine Ev.bind t0 (Ev.bind (ev_const s1) (Ev.bind t0 (Ev.bind (ev_const s2) ?_)))
  simp only [if_true]
  refine Ev.bind t0 (Ev.bind (eqStringS_ev _ c0.1) ?_)
  simp only [if_true]
  exact Ev.now _

end Go.Proofs.Ytkcekdedkfiddaa.Pure
