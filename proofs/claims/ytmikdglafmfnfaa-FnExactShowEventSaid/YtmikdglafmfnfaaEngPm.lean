/- The pure engine's truth: calls, whole. -/
import Derived.Test.YtmikdglafmfnfaaEngPl
namespace Go.Proofs.Ytmikdglafmfnfaa.Eng
open Go Go.RowKit
set_option linter.unusedVariables false
set_option linter.unusedSimpArgs false
set_option linter.constructorNameAsVariable false
theorem resMu_ok {B : Bas} {ro : List (List T)} {m : Mst} {s : St} {slX : List E0} {svX : List Value} {Mo : List Nat} {cs : List (List T)} (hm : Mem B ro m) (hfr : ∀ h, h < m.s.n → h ∉ Mo → s.get h = m.s.get h) :
    ∀ (css : List CS) (sl : List E0) (sv : List Value) (cs0 c1 : List (List T)) (M1 : List Nat) (ob : Obs) (nk j : Nat), okC css = true → KOk ro ob nk → AllE (E0R ro m) sl sv → One m Mo css sl sv cs0 → AF ro m.ob css sl cs0 → (mlOf css sl).Nodup →
    (∀ k ∈ mlOf css sl, k < nk ∧ lookO ob k = lookO m.ob k) → (∀ k ∈ mlOf css sl, ∀ y ∈ Mo, y ∈ (m.A k).F → True) → M1.Nodup → (∀ y ∈ M1, y ∈ Mo ∨ m.s.n ≤ y) → ResM s css sv cs0 c1 M1 → StrC cs j c1 →
    ∃ L, Ph ro m s slX svX Mo ob nk (resMu ro cs css sl ob j) nk L (mlOf css sl) M1
  | [], sl, sv, cs0, c1, M1, ob, nk, j, _, hk, _, _, _, _, _, _, _, _, h, _ => by
    simp only [ResM] at h
    obtain ⟨rfl, rfl⟩ := h
    exact ⟨[], by simpa [resMu, mlOf] using Ph.nil hk⟩
  | .v :: r, sl, sv, cs0, c1, M1, ob, nk, j, hok, hk, ha, ho, haf, hnd, hl, ht, hM, hMo, h, hc => by
    simp only [ResM, One, AF, mlOf, resMu] at *
    exact resMu_ok hm hfr r sl sv cs0 c1 M1 ob nk j hok hk ha ho haf hnd hl ht hM hMo h hc
  | .t e 0 :: r, sl, sv, cs0, c1, M1, ob, nk, j, hok, hk, ha, ho, haf, hnd, hl, ht, hM, hMo, h, hc => by
    simp only [ResM] at h
    obtain ⟨u, sv1, c, cs1, rfl, rfl, h⟩ := h
    simp only [okC, Bool.and_eq_true] at hok
    cases sl with
    | nil => exact ha.elim
    | cons x sl =>
      simp only [One, AF, mlOf, resMu] at *
      exact resMu_ok hm hfr r sl sv1 cs1 c1 M1 ob nk j hok.2 hk ha.2 ho haf hnd hl ht hM hMo h hc
  | .t e (n + 2) :: r, sl, sv, cs0, c1, M1, ob, nk, j, hok, hk, ha, ho, haf, hnd, hl, ht, hM, hMo, h, hc => by
    simp only [ResM] at h
    obtain ⟨u, sv1, c, cs1, rfl, rfl, h⟩ := h
    simp only [okC, Bool.and_eq_true] at hok
    cases sl with
    | nil => exact ha.elim
    | cons x sl =>
      simp only [One, AF, mlOf, resMu] at *
      exact resMu_ok hm hfr r sl sv1 cs1 c1 M1 ob nk j hok.2 hk ha.2 ho.2 haf hnd hl ht hM hMo h hc
  | .t e 1 :: r, sl, sv, cs0, c1, M1, ob, nk, j, hok, hk, ha, ho, haf, hnd, hl, ht, hM, hMo, h, hc => by
    simp only [ResM] at h
    obtain ⟨u, sv1, c, cs1, c', c1', F, M', rfl, rfl, rfl, htr, hlen, rfl, h⟩ := h
    simp only [okC, Bool.and_eq_true] at hok
    obtain ⟨hc1, hc2⟩ := hc.tl
    have nd := List.nodup_append.1 hM
    cases sl with
    | nil => exact ha.elim
    | cons x sl =>
      obtain ⟨hx, ha⟩ := ha
      simp only [One] at ho
      simp only [AF] at haf
      obtain ⟨hcont, hown, haf⟩ := haf
      have hMo' : ∀ y ∈ M', y ∈ Mo ∨ m.s.n ≤ y := fun y hy => hMo y (by simp [hy])
      cases x with
      | z =>
        simp only [mlOf, rootE, List.nil_append] at *
        have hu : u = nl := hx
        subst hu
        have hF : F = [] := by
          rcases TR_l.1 htr with ⟨_, _, h3⟩ | ⟨_, _, _, h3, _⟩
          · exact h3
          · cases h3
        subst hF
        simp only [resMu, List.nil_append]
        exact resMu_ok hm hfr r sl sv1 cs1 c1' M' ob nk (j + 1) hok.2 hk ha ho.2 haf hnd hl (fun _ _ _ _ _ => trivial) nd.2.1 hMo' h hc2
      | t k e' =>
        simp only [mlOf, rootE, List.cons_append, List.nil_append] at hnd hl ht ⊢
        have hnd' := List.nodup_cons.1 hnd
        simp only [isOwnS] at hown
        split at hown
        · rename_i c0 hlk
          have hl2 := look2_own (ro := ro) hlk
          simp only [contE, hl2] at hcont
          split at hcont
          · rename_i hb
            have := Nat.eq_of_beq_eq_true hb; subst this
            simp only [Option.some.injEq] at hcont; subst hcont
            have hlob : lookO ob k = some (.ls true c0) := by rw [(hl k (by simp)).2]; exact hlk
            obtain ⟨_, _, _, hr⟩ := hx
            have hLOk : LOk s c' ⟨(m.A k).nil, (m.A k).h, (m.A k).b, F⟩ := by
              rcases hr _ _ hl2 with ⟨rfl, h4⟩ | ⟨n, h4, h5, rfl⟩
              · rcases TR_l.1 htr with ⟨_, h6, h7⟩ | ⟨_, _, _, h6, _⟩
                · exact .inl ⟨h4, h6, h7⟩
                · cases h6
              · rcases TR_l.1 htr with ⟨h6, _⟩ | ⟨_, _, _, h6, _, h7⟩
                · cases h6
                · cases h6; exact .inr ⟨h4, h7⟩
            have gs := (Ph.nil (m := m) (s := s) (sl := slX) (sv := svX) (Mo := Mo) hk).set (x := ⟨k, .ls true c', ⟨(m.A k).nil, (m.A k).h, (m.A k).b, F⟩, F⟩) hlob (by simp) (hl k (by simp)).1 ⟨true, c0, hl2, hlen, rfl, rfl, rfl⟩ (.inl ⟨c', rfl, hLOk⟩) (fun h => h) (fun y hy => .inl hy) rfl
            obtain ⟨L, f1⟩ := resMu_ok (slX := slX) (svX := svX) hm hfr r sl sv1 cs1 c1' M' (setO ob k (.ls true c')) nk (j + 1) hok.2 gs.kok ha ho.2 haf hnd'.2 (fun k' hk' => ⟨(hl k' (by simp [hk'])).1, by have hne : k ≠ k' := fun he => hnd'.1 (he ▸ hk'); rw [lookO_set, if_neg hne]; exact (hl k' (by simp [hk'])).2⟩) (fun _ _ _ _ _ => trivial) nd.2.1 hMo' h hc2
            have hcomp := gs.comp f1 (fun k' hk' => by simp at hk'; subst hk'; exact hnd'.1) (fun k' hk' => by simp at hk'; subst hk'; exact (hl k' (by simp)).1) (fun k' hk' => (hl k' (by simp [hk'])).1)
            simp only [List.nil_append, List.cons_append] at hcomp
            simp only [resMu, hc1]
            exact ⟨_, hcomp⟩
          · cases hcont
        · cases hown
      | n k pre e' =>
        simp only [mlOf, rootE, List.cons_append, List.nil_append] at hnd hl ht ⊢
        have hnd' := List.nodup_cons.1 hnd
        simp only [isOwnS] at hown
        split at hown
        · rename_i c0 hlk
          have hl2 := look2_own (ro := ro) hlk
          simp only [contE, hl2] at hcont
          split at hcont
          · rename_i hb
            have := Nat.eq_of_beq_eq_true hb; subst this
            simp only [Option.some.injEq] at hcont; subst hcont
            have hlob : lookO ob k = some (.ls true c0) := by rw [(hl k (by simp)).2]; exact hlk
            obtain ⟨_, _, hpos, hr⟩ := hx
            obtain ⟨ds, h1, hr⟩ := hr _ _ hl2
            have hsub : subN c0 pre = ds := by unfold subN; rw [h1]
            rw [hsub] at hlen
            have hownk := (hm.own k _ hl2 rfl).1
            have key : ∃ F2, LOk s (nput c0 pre c') ⟨(m.A k).nil, (m.A k).h, (m.A k).b, F2⟩ ∧ F2.Nodup ∧ (∀ y ∈ F2, y ∈ F ∨ (y ∈ (m.A k).F ∧ y ∉ Mo)) := by
              rcases hr with ⟨rfl, rfl⟩ | ⟨n', h, b, h3, h4, h5, rfl⟩
              · have hc0 : c' = [] := List.eq_nil_of_length_eq_zero (by rw [hlen]; rfl)
                subst hc0
                have hnot : ∀ y ∈ (m.A k).F, y ∉ Mo := fun y hy hyM => by
                  have := ho.1 k (by simp [rootE]) [] (TR_l.2 (.inl ⟨rfl, hsub, rfl⟩)) y hyM hy
                  simp at this
                refine ⟨(m.A k).F, ?_, hownk, fun y hy => .inr ⟨hy, hnot y hy⟩⟩
                rw [nput_same h1]
                rcases hm.obr k _ hl2 with ⟨a, b, c⟩ | ⟨a, b⟩
                · exact .inl ⟨a, b, c⟩
                · exact .inr ⟨a, b.frame fun y hy => hfr y (b.lt y hy) (hnot y hy)⟩
              · rcases TR_l.1 htr with ⟨h6, _⟩ | ⟨_, _, _, h6, _, h7⟩
                · cases h6
                · cases h6
                  obtain ⟨_, hwk⟩ : _ ∧ Win m.s true c0 (m.A k).h (m.A k).b (m.A k).F := by
                    rcases hm.obr k _ hl2 with ⟨hh, _⟩ | hh
                    · rw [h3] at hh; cases hh
                    · exact hh
                  obtain ⟨G, hG, hGs⟩ := hm.node hl2 h3 h1 h4
                  have hone := ho.1 k (by simp [rootE]) G (by rw [hsub]; exact TR_l.2 (.inr ⟨h, b, n', rfl, h5, hG⟩))
                  obtain ⟨F2, p1, p2, p3⟩ := Win.put2 (s' := s) hlen hG h7 nd.1 hwk hownk h1 h4 (fun y hy hyk => by
                    rcases hMo y (by simp [hy]) with hh | hh
                    · exact hone y hh hyk
                    · have := hwk.lt y hyk; omega) (fun y hy hyG => hfr y (hwk.lt y hy) fun hyM => hyG (hone y hyM hy))
                  refine ⟨F2, .inr ⟨h3, p1⟩, p2, fun y hy => (p3 y hy).imp id fun hh => ⟨hh.1, fun hyM => hh.2 (hone y hyM hh.1)⟩⟩
            obtain ⟨F2, q1, q2, q3⟩ := key
            have hnl : (nput c0 pre c').length = c0.length := nput_length h1 hlen
            have gs := (Ph.nil (m := m) (s := s) (sl := slX) (sv := svX) (Mo := Mo) hk).set (x := ⟨k, .ls true (nput c0 pre c'), ⟨(m.A k).nil, (m.A k).h, (m.A k).b, F2⟩, F⟩) hlob (by simp) (hl k (by simp)).1 ⟨true, c0, hl2, hnl, rfl, rfl, rfl⟩ (.inl ⟨_, rfl, q1⟩) (fun _ => q2) q3 rfl
            obtain ⟨L, f1⟩ := resMu_ok (slX := slX) (svX := svX) hm hfr r sl sv1 cs1 c1' M' (setO ob k (.ls true (nput c0 pre c'))) nk (j + 1) hok.2 gs.kok ha ho.2 haf hnd'.2 (fun k' hk' => ⟨(hl k' (by simp [hk'])).1, by have hne : k ≠ k' := fun he => hnd'.1 (he ▸ hk'); rw [lookO_set, if_neg hne]; exact (hl k' (by simp [hk'])).2⟩) (fun _ _ _ _ _ => trivial) nd.2.1 hMo' h hc2
            have hcomp := gs.comp f1 (fun k' hk' => by simp at hk'; subst hk'; exact hnd'.1) (fun k' hk' => by simp at hk'; subst hk'; exact (hl k' (by simp)).1) (fun k' hk' => (hl k' (by simp [hk'])).1)
            simp only [List.nil_append, List.cons_append] at hcomp
            simp only [resMu, hlob, hc1]
            exact ⟨_, hcomp⟩
          · cases hcont
        · cases hown
      | _ => simp [isOwnS] at hown
/-- The call of a function. -/
theorem call_ok {C : Ctx} {B : Bas} {ro : List (List T)} {m : Mst} {f : FuncId} {g : Sg} {es : List EV} {as : List Value} {ar : Ar} {K : J2} (hm : Mem B ro m) (hok : okSg g = true) (hp : argP ro m.ob g.ps es = some ar) (ha : AllV (EVR (E0R ro m)) es as) (hnd : nodupN ar.mu = true) (hap : apartN ar.mu ar.rd = true)
    (h : cl2 C f g ar.vs ar.cs K) : ∃ vs' cs' v s' A', K vs' cs' ∧ (let sl := ar.sl.map (killE ar.mu)
      let r := resV sl vs' cs' g.rs (delM (csOf g.ps) ar.sl m.ob) m.nk 0 0
      let b := resB sl vs' cs' g.ps es g.bs r.ob r.nk r.i r.j
      Out C B ro m ar.mu ar.mu (.call f as) v (bundE r.ys) ⟨s', killO ar.mu (resMu ro cs' (csOf g.ps) ar.sl b.ob b.j), b.nk, A'⟩ ∧
      (ar.mu = [] → ∀ k, (k < m.nk ∨ b.nk ≤ k) → A' k = m.A k) ∧ (allV g.rs = true → plain (nx vs' 0) = true ∧ v = nx vs' 0)) := by
  unfold okSg at hok
  simp only [Bool.and_eq_true] at hok
  obtain ⟨sv, M, D, hA⟩ := argP_ok hm g.ps es as ar hok.1.1 hp ha
  have hmu := nodupN_ok hnd
  have hrd := apartN_ok hap
  have hMn := hA.nd hmu
  have hMD : ∀ x ∈ M, x ∉ D := fun x hx hd => rows_apart hm hA.mu hA.rd hrd (hA.mM x hx) (hA.dD x hd)
  obtain ⟨v, s', M', vs', cs', hgo, hfr, hres, hM'n, hM'f, hn, hK⟩ := h m.s as sv M D hA.par hMn hMD
  obtain ⟨as', v1, v2, c1, c2, c3, M1, M2, M3, rfl, _, rfl, rfl, rfl, hRV, hRB, hRM⟩ := hres.ex
  have hperm := hA.perm
  have hpn : (bidsOf g.ps es ++ (dlOf (csOf g.ps) ar.sl ++ mlOf (csOf g.ps) ar.sl)).Nodup := hperm.nodup_iff.1 hmu
  have nd1 := List.nodup_append.1 hpn
  have nd2 := List.nodup_append.1 nd1.2.1
  have hin : ∀ k, k ∈ ar.mu ↔ k ∈ bidsOf g.ps es ∨ k ∈ dlOf (csOf g.ps) ar.sl ∨ k ∈ mlOf (csOf g.ps) ar.sl := fun k => by rw [hperm.mem_iff]; simp
  obtain ⟨dl, hg, hdl⟩ := delM_ok (csOf g.ps) ar.sl m.ob [] (Gone.nil hm.kok) nd2.1 (fun k hk => ⟨by simp, hA.mu k ((hin k).2 (.inr (.inl hk)))⟩)
  have hdl' : ∀ k, k ∈ dl ↔ k ∈ dlOf (csOf g.ps) ar.sl := fun k => by rw [hdl]; simp
  have hlook : ∀ k, k ∈ ar.mu → k ∉ dl → lookO (delM (csOf g.ps) ar.sl m.ob) k = lookO m.ob k := fun k hk hkd => by
    obtain ⟨o, ho, how⟩ := hA.mu k hk
    rw [ho]
    exact look2_isOwn (ro := ro) (by rw [hg.look, if_neg hkd]; exact look2_own ho) how
  have hltmu : ∀ k ∈ ar.mu, k < m.nk := fun k hk => by obtain ⟨o, ho, _⟩ := hA.mu k hk; exact (hm.kok.lt _ (lookO_mem ho)).2
  have s1 : Str (v1 ++ v2) 0 (v1 ++ v2) := fun t x hx => by simp [nx, List.getD_eq_getElem?_getD, hx]
  have s2 : StrC (c1 ++ (c2 ++ c3)) 0 (c1 ++ (c2 ++ c3)) := fun t x hx => by simp [nxc, List.getD_eq_getElem?_getD, hx]
  obtain ⟨L1, p1, p2, p3, p4⟩ := resV_ok (m := m) (sl := ar.sl.map (killE ar.mu)) (sv := sv) (Mo := M) g.rs as' v1 c1 M1 (delM (csOf g.ps) ar.sl m.ob) m.nk 0 0 hok.1.2 hg.kok hRV s1.app.1 s2.app.1
  have hL1 : ∀ y ∈ L1, m.nk ≤ y.k := fun y hy => by
    rcases p1.key y hy with ⟨a, _⟩ | ⟨a, _⟩
    · simp at a
    · exact a
  have hL1k : ∀ k, k < m.nk → ∀ y ∈ L1, y.k ≠ k := fun k hk y hy he => by have := hL1 y hy; omega
  generalize hr : resV (ar.sl.map (killE ar.mu)) (v1 ++ v2) (c1 ++ (c2 ++ c3)) g.rs (delM (csOf g.ps) ar.sl m.ob) m.nk 0 0 = r at *
  obtain ⟨L2, q1, q2⟩ := resB_ok (m := m) (sl := ar.sl.map (killE ar.mu)) (sv := sv) (Mo := M) (vs := v1 ++ v2) (cs := c1 ++ (c2 ++ c3)) g.ps es as g.bs v2 c2 M2 r.ob r.nk r.i r.j hok.2 p1.kok hA.br nd1.1 (fun b hb => by
    have hbm := (hin b).2 (.inl hb)
    have hbd : b ∉ dl := fun h => nd1.2.2 b hb b (by rw [hdl'] at h; simp [h]) rfl
    obtain ⟨o, ho, _⟩ := hA.mu b hbm
    refine ⟨Nat.lt_of_lt_of_le (hltmu b hbm) p1.le, o, ?_⟩
    rw [p1.has b (hL1k b (hltmu b hbm)), hlook b hbm hbd]; exact ho) hRB (by rw [p2]; exact s1.app.2) (by rw [p3]; exact s2.app.2.app.1)
  generalize hb : resB (ar.sl.map (killE ar.mu)) (v1 ++ v2) (c1 ++ (c2 ++ c3)) g.ps es g.bs r.ob r.nk r.i r.j = b at *
  have hL2k : ∀ k, k < m.nk → k ∉ bidsOf g.ps es → ∀ y ∈ L2, y.k ≠ k := fun k hk hkb y hy he => by
    rcases q1.key y hy with ⟨a, _⟩ | ⟨a, _⟩
    · exact hkb (he ▸ a)
    · have := p1.le; omega
  have hM3n : M3.Nodup := (List.nodup_append.1 (List.nodup_append.1 hM'n).2.1).2.1
  obtain ⟨L3, t1⟩ := resMu_ok (slX := ar.sl.map (killE ar.mu)) (svX := sv) (Mo := M) (cs := c1 ++ (c2 ++ c3)) hm hfr (csOf g.ps) ar.sl sv ar.cs c3 M3 b.ob b.nk b.j (by
      unfold csOf
      have := hok.1.1
      generalize g.ps = ps at this
      induction ps with
      | nil => rfl
      | cons p r ih =>
        simp only [List.all_cons, Bool.and_eq_true] at this
        simp only [List.map_cons, List.flatten_cons]
        have h2 := ih this.2
        have h1 := this.1
        generalize p.2 = a at h1
        induction a with
        | nil => exact h2
        | cons c a iha =>
          cases c with
          | v => simp only [List.cons_append, okC] at *; exact iha h1
          | t e md => simp only [List.cons_append, okC, Bool.and_eq_true] at *; exact ⟨h1.1, iha h1.2⟩) q1.kok hA.sl (hA.one hmu) hA.af nd2.2.1 (fun k hk => by
      have hkm := (hin k).2 (.inr (.inr hk))
      have hkd : k ∉ dl := fun h => nd2.2.2 k (by rw [hdl'] at h; exact h) k hk rfl
      have hkb : k ∉ bidsOf g.ps es := fun h => nd1.2.2 k h k (by simp [hk]) rfl
      refine ⟨Nat.lt_of_lt_of_le (hltmu k hkm) (Nat.le_trans p1.le q1.le), ?_⟩
      rw [q1.has k (hL2k k (hltmu k hkm) hkb), p1.has k (hL1k k (hltmu k hkm)), hlook k hkm hkd]) (fun _ _ _ _ _ => trivial) hM3n (fun y hy => hM'f y (by simp [hy])) hRM (by rw [q2, p3, Nat.add_assoc]; have := s2.app.2.app.2; rwa [Nat.zero_add] at this ⊢)
  have c12 := p1.comp q1 (fun k hk => by simp at hk) (fun k hk => by simp at hk) (fun k hk => hltmu k ((hin k).2 (.inl hk)))
  have c123 := c12.comp t1 (fun k hk => by simp at hk; exact fun h => nd1.2.2 k hk k (by simp [h]) rfl) (fun k hk => by simp at hk; exact hltmu k ((hin k).2 (.inl hk))) (fun k hk => hltmu k ((hin k).2 (.inr (.inr hk))))
  have hLk : ∀ k, k ∈ dl → ∀ y ∈ (L1 ++ L2) ++ L3, y.k ≠ k := fun k hk y hy he => by
    rw [hdl'] at hk
    rcases c123.key y hy with ⟨a, _⟩ | ⟨a, _⟩
    · simp at a
      rcases a with a | a
      · exact nd1.2.2 y.k a k (by simp [hk]) he
      · exact nd2.2.2 k hk y.k a he.symm
    · have := hltmu k ((hin k).2 (.inr (.inl hk))); omega
  have hyp : CallHyp B ro m s' M ar.mu (killO ar.mu (resMu ro (c1 ++ (c2 ++ c3)) (csOf g.ps) ar.sl b.ob b.j)) b.nk ((L1 ++ L2) ++ L3) (ar.sl.map (killE ar.mu)) sv := by
    refine ⟨hn, c123.le, hfr, hA.mu, hA.mM, c123.kok.kill, c123.keys, fun x hx => by rw [look2_kill, c123.look x hx]; rfl, fun k hk hx => ?_, fun k hk hx => ?_, fun x hx => ?_, ?_, fun x hx y hy => ?_, ?_, fun x hx y hy => ?_, c123.ok, ?_⟩
    · rw [look2_kill, c123.rest k hx, hg.look]
      by_cases hkd : k ∈ dl
      · rw [if_pos hkd]; rfl
      · exfalso
        rcases (hin k).1 hk with h1 | h1 | h1
        · obtain ⟨y, hy, he⟩ := c123.cov k (by simp [h1]); exact hx y hy he
        · exact hkd ((hdl' k).2 h1)
        · obtain ⟨y, hy, he⟩ := c123.cov k (by simp [h1]); exact hx y hy he
    · rw [look2_kill, c123.rest k hx, hg.look, if_neg fun h => hk ((hin k).2 (.inr (.inl ((hdl' k).1 h))))]
    · rcases c123.key x hx with ⟨a, b⟩ | a
      · refine .inl ⟨(hin x.k).2 ?_, b⟩
        simp at a
        rcases a with a | a
        · exact .inl a
        · exact .inr (.inr a)
      · exact .inr a
    · exact c123.nd (c123.perm.nodup_iff.2 (by rw [List.append_assoc]; exact hM'n))
    · rcases c123.rows x hx y hy with a | ⟨a, b, c⟩
      · exact .inl a
      · refine .inr ⟨a, b, (hin x.k).2 ?_⟩
        simp at c
        rcases c with c | c
        · exact .inl c
        · exact .inr (.inr c)
    · exact c123.perm.nodup_iff.2 (by rw [List.append_assoc]; exact hM'n)
    · refine hM'f y ?_
      rw [← List.append_assoc, ← c123.perm.mem_iff]
      exact List.mem_flatten.2 ⟨_, List.mem_map.2 ⟨x, hx, rfl⟩, hy⟩
    · exact AllE_map (f := killE ar.mu) (fun x u hx => ⟨x, rfl, hx⟩) hA.sl
  obtain ⟨z1, z2, z3, z4, z5⟩ := call_mem hm hyp
  refine ⟨v1 ++ v2, c1 ++ (c2 ++ c3), bundle as', s', findA m.A ((L1 ++ L2) ++ L3), hK, ?_⟩
  simp only [hr, hb]
  refine ⟨⟨hgo, z1, z2, bund_ok (p4 ro _ (fun x hx => z3 x (by simp [hx])) z4), fun k o hk hak x hx => hfr x ((hm.obr k o hk).lt x hx) fun hxM => ?_, hn, z5⟩, fun hmn k hk => findA_out fun x hx he => ?_, fun hv => ?_⟩
  · obtain ⟨j, hj, hjx⟩ := hA.mM x hxM
    obtain ⟨o2, ho2, how⟩ := hA.mu j hj
    have hne : j ≠ k := fun he => by
      have := List.any_eq_false.1 hak j hj; rw [he] at this; simp at this
    exact hm.dis j k o2 o hne (look2_own ho2) hk how x hjx hx
  · rcases hyp.ids x hx with ⟨a, _⟩ | ⟨a, a2⟩
    · rw [hmn] at a; simp at a
    · omega
  · unfold allV at hv
    split at hv
    · rename_i hrs
      rw [hrs] at hRV
      simp only [ResV, ResC] at hRV
      obtain ⟨a, as2, us, w1, w2, d1, d2, N1, N2, rfl, rfl, rfl, ⟨u, us', vs2, rfl, rfl, hpl, rfl, rfl, rfl, rfl⟩, ⟨rfl, rfl, rfl, rfl⟩, hw, _⟩ := hRV
      simp only [List.cons.injEq, and_true] at hw
      subst hw
      exact ⟨hpl, rfl⟩
    · cases hv
theorem delM_none : ∀ {css : List CS} {sl : List E0} {ob : Obs}, muOf css sl = [] → delM css sl ob = ob
  | [], sl, ob, _ => by simp [delM]
  | .v :: r, sl, ob, h => by simp only [muOf, delM] at *; exact delM_none h
  | .t e md :: r, [], ob, _ => by simp [delM]
  | .t e 0 :: r, x :: sl, ob, h => by simp only [muOf, delM] at *; exact delM_none h
  | .t e 1 :: r, x :: sl, ob, h => by
    simp only [muOf, List.append_eq_nil_iff] at h
    simp only [delM]; exact delM_none h.2
  | .t e 2 :: r, x :: sl, ob, h => by
    simp only [muOf, List.append_eq_nil_iff] at h
    cases x <;> first | (simp [rootE] at h; done) | (simp only [delM]; exact delM_none h.2)
  | .t e (n + 3) :: r, x :: sl, ob, h => by
    simp only [muOf, List.append_eq_nil_iff] at h
    simp only [delM]; exact delM_none h.2
theorem resMu_none {ro : List (List T)} {cs : List (List T)} : ∀ {css : List CS} {sl : List E0} {ob : Obs} {j : Nat}, muOf css sl = [] → resMu ro cs css sl ob j = ob
  | [], sl, ob, j, _ => by simp [resMu]
  | .v :: r, sl, ob, j, h => by simp only [muOf, resMu] at *; exact resMu_none h
  | .t e md :: r, [], ob, j, _ => by simp [resMu]
  | .t e 0 :: r, x :: sl, ob, j, h => by simp only [muOf, resMu] at *; exact resMu_none h
  | .t e 1 :: r, x :: sl, ob, j, h => by
    simp only [muOf, List.append_eq_nil_iff] at h
    cases x <;> first | (simp [rootE] at h; done) | (simp only [resMu]; exact resMu_none h.2)
  | .t e (n + 2) :: r, x :: sl, ob, j, h => by
    simp only [muOf, List.append_eq_nil_iff] at h
    simp only [resMu]; exact resMu_none h.2
theorem argC_mu {ro : List (List T)} {ob : Obs} : ∀ {css : List CS} {xs : List E0} {p : Ar}, argC ro ob css xs = some p → p.mu = muOf css p.sl ∧ p.sl.length = nsl css
  | [], [], p, h => by simp only [argC, Option.some.injEq] at h; subst h; exact ⟨rfl, rfl⟩
  | [], x :: xs, p, h => by simp [argC] at h
  | .v :: r, [], p, h => by simp [argC] at h
  | .t e md :: r, [], p, h => by simp [argC] at h
  | .v :: r, x :: xs, p, h => by
    cases x <;> simp only [argC, reduceCtorEq] at h
    simp only [Option.map_eq_some_iff] at h
    obtain ⟨q, h1, rfl⟩ := h
    have := argC_mu h1
    exact ⟨by simp only [muOf]; exact this.1, by simp only [nsl]; exact this.2⟩
  | .t e md :: r, x :: xs, p, h => by
    simp only [argC, Option.bind_eq_some_iff] at h
    obtain ⟨c, hc, q, h1, h⟩ := h
    have := argC_mu h1
    match md, h with
    | 0, h => simp only [Option.some.injEq] at h; subst h; exact ⟨by simp only [muOf]; exact this.1, by simp [nsl, this.2]⟩
    | 1, h =>
      simp only at h
      split at h
      · simp only [Option.some.injEq] at h; subst h; exact ⟨by simp only [muOf]; rw [this.1], by simp [nsl, this.2]⟩
      · cases h
    | n + 2, h =>
      simp only at h
      split at h
      · simp only [Option.some.injEq] at h; subst h; exact ⟨by simp only [muOf]; rw [this.1], by simp [nsl, this.2]⟩
      · cases h
theorem argP_mu {ro : List (List T)} {ob : Obs} : ∀ {ps : List (Nat × List CS)} {es : List EV} {p : Ar}, argP ro ob ps es = some p → p.mu = [] → muOf (csOf ps) p.sl = []
  | [], [], p, h, _ => by simp [csOf, muOf]
  | [], e :: es, p, h, _ => by simp [argP] at h
  | (w, k) :: r, [], p, h, _ => by simp [argP] at h
  | (w, k) :: r, e :: es, p, h, hp => by
    simp only [argP, Option.bind_eq_some_iff] at h
    obtain ⟨q, hq, h⟩ := h
    have hc : csOf ((w, k) :: r) = k ++ csOf r := by simp [csOf]
    split at h
    · simp only [Option.map_eq_some_iff] at h
      obtain ⟨p1, h1, rfl⟩ := h
      simp only [List.append_eq_nil_iff] at hp
      obtain ⟨h2, h3⟩ := argC_mu h1
      rw [hc, muOf_app h3, ← h2, hp.1, argP_mu hq hp.2]; rfl
    · simp only [Option.map_eq_some_iff] at h
      obtain ⟨p1, h1, rfl⟩ := h
      simp only [List.append_eq_nil_iff] at hp
      obtain ⟨h2, h3⟩ := argC_mu h1
      rw [hc, muOf_app h3, ← h2, hp.1, argP_mu hq hp.2]; rfl
    · split at h
      · simp only [Option.map_eq_some_iff] at h
        obtain ⟨p1, h1, rfl⟩ := h
        simp at hp
      · cases h
    · cases h
theorem bids_none {ro : List (List T)} {ob : Obs} : ∀ {ps : List (Nat × List CS)} {es : List EV} {p : Ar}, argP ro ob ps es = some p → p.mu = [] → ∀ (sl : List E0) (vs : List Value) (cs : List (List T)) (ob' : Obs) (nk i j : Nat) (bs : List (List RC)), (resB sl vs cs ps es bs ob' nk i j).ob = ob' ∧ (resB sl vs cs ps es bs ob' nk i j).nk = nk
  | [], [], p, h, _ => fun _ _ _ _ _ _ _ _ => by simp [resB]
  | [], e :: es, p, h, _ => by simp [argP] at h
  | (w, k) :: r, [], p, h, _ => by simp [argP] at h
  | (w, k) :: r, e :: es, p, h, hp => by
    simp only [argP, Option.bind_eq_some_iff] at h
    obtain ⟨q, hq, h⟩ := h
    intro sl vs cs ob' nk i j bs
    split at h
    · simp only [Option.map_eq_some_iff] at h
      obtain ⟨p1, h1, rfl⟩ := h
      simp only [List.append_eq_nil_iff] at hp
      simp only [resB]; exact bids_none hq hp.2 sl vs cs ob' nk i j bs
    · simp only [Option.map_eq_some_iff] at h
      obtain ⟨p1, h1, rfl⟩ := h
      simp only [List.append_eq_nil_iff] at hp
      simp only [resB]; exact bids_none hq hp.2 sl vs cs ob' nk i j bs
    · split at h
      · simp only [Option.map_eq_some_iff] at h
        obtain ⟨p1, h1, rfl⟩ := h
        simp at hp
      · cases h
    · cases h
end Go.Proofs.Ytmikdglafmfnfaa.Eng
