/- The pure engine's truth: calls. -/
import Derived.Test.YtmikdglafmfnfaaEngPk
namespace Go.Proofs.Ytmikdglafmfnfaa.Eng
open Go Go.RowKit
set_option linter.unusedVariables false
set_option linter.unusedSimpArgs false
set_option linter.constructorNameAsVariable false
theorem delM_ok {ro : List (List T)} {m : Mst} : ∀ (css : List CS) (sl : List E0) (ob1 : Obs) (dl0 : List Nat), Gone ro m.ob ob1 m.nk dl0 → (dlOf css sl).Nodup → (∀ k ∈ dlOf css sl, k ∉ dl0 ∧ ∃ o, lookO m.ob k = some o ∧ isOwn o = true) → ∃ dl, Gone ro m.ob (delM css sl ob1) m.nk dl ∧ ∀ k, k ∈ dl ↔ k ∈ dl0 ∨ k ∈ dlOf css sl := by
  intro css
  induction css with
  | nil => intro sl ob1 dl0 hg _ _; exact ⟨dl0, by simpa [delM] using hg, fun k => by simp [dlOf]⟩
  | cons c r ih =>
    intro sl ob1 dl0 hg hnd hh
    cases c with
    | v => simp only [delM, dlOf] at *; exact ih sl ob1 dl0 hg hnd hh
    | t e md =>
      cases sl with
      | nil => exact ⟨dl0, by simpa [delM] using hg, fun k => by simp [dlOf]⟩
      | cons x sl =>
        by_cases hc : md = 2 ∧ ∃ k e', x = .t k e'
        · obtain ⟨rfl, k, e', rfl⟩ := hc
          simp only [delM, dlOf] at *
          obtain ⟨h1, o, ho, how⟩ := hh k (by simp)
          have hl : lookO ob1 k = some o := look2_isOwn (ro := ro) (by rw [hg.look, if_neg h1]; exact look2_own ho) how
          have hnd' := List.nodup_cons.1 hnd
          obtain ⟨dl, g1, g2⟩ := ih sl _ _ (hg.del hl how) hnd'.2 fun j hj => ⟨fun hj2 => by
            rcases List.mem_cons.1 hj2 with rfl | hj2
            · exact hnd'.1 hj
            · exact (hh j (by simp [hj])).1 hj2, (hh j (by simp [hj])).2⟩
          exact ⟨dl, g1, fun j => by
            rw [g2]; simp only [List.mem_cons]
            constructor
            · rintro ((h | h) | h)
              · exact .inr (.inl h)
              · exact .inl h
              · exact .inr (.inr h)
            · rintro (h | h | h)
              · exact .inl (.inr h)
              · exact .inl (.inl h)
              · exact .inr h⟩
        · have e1 : delM (.t e md :: r) (x :: sl) ob1 = delM r sl ob1 := by
            match md, x, hc with
            | 0, _, _ => rfl
            | 1, _, _ => rfl
            | n + 3, _, _ => rfl
            | 2, .t k e', hc => exact absurd ⟨rfl, k, e', rfl⟩ hc
            | 2, .v _, _ => rfl
            | 2, .q _, _ => rfl
            | 2, .z, _ => rfl
            | 2, .p _ _, _ => rfl
            | 2, .e _ _ _, _ => rfl
            | 2, .s _ _ _ _ _, _ => rfl
            | 2, .n _ _ _, _ => rfl
            | 2, .w, _ => rfl
          have e2 : dlOf (.t e md :: r) (x :: sl) = dlOf r sl := by
            match md, x, hc with
            | 0, _, _ => rfl
            | 1, _, _ => rfl
            | n + 3, _, _ => rfl
            | 2, .t k e', hc => exact absurd ⟨rfl, k, e', rfl⟩ hc
            | 2, .v _, _ => rfl
            | 2, .q _, _ => rfl
            | 2, .z, _ => rfl
            | 2, .p _ _, _ => rfl
            | 2, .e _ _ _, _ => rfl
            | 2, .s _ _ _ _ _, _ => rfl
            | 2, .n _ _ _, _ => rfl
            | 2, .w, _ => rfl
          rw [e1, e2]; rw [e2] at hnd hh
          exact ih sl ob1 dl0 hg hnd hh
/-- An old object is laid anew. -/
theorem Ph.set {ro : List (List T)} {m : Mst} {s : St} {sl : List E0} {sv : List Value} {Mo : List Nat} {ob ob1 : Obs} {nk nk1 : Nat} {L : List En} {ids M1 : List Nat} {x : En} {o0 : Ob2} {P : List Nat} (h : Ph ro m s sl sv Mo ob nk ob1 nk1 L ids M1) (hl : lookO ob1 x.k = some o0) (hid : x.k ∉ ids) (hlt : x.k < nk) (hold : OldOk ro m x) (hok : EnOk s sl sv L x)
    (hnd : x.P.Nodup → x.a.F.Nodup) (hrow : ∀ y ∈ x.a.F, y ∈ x.P ∨ (y ∈ (m.A x.k).F ∧ y ∉ Mo)) (hP : x.P = P) : Ph ro m s sl sv Mo ob nk (setO ob1 x.k x.o) nk1 (L ++ [x]) (ids ++ [x.k]) (M1 ++ P) := by
  have hne : ∀ y ∈ L, y.k ≠ x.k := fun y hy he => by
    rcases h.key y hy with ⟨a, _⟩ | ⟨a, _⟩
    · exact hid (he ▸ a)
    · omega
  refine ⟨fun y hy => ?_, fun k hk => ?_, h.kok.set, h.le, ?_, fun y hy => ?_, fun k hk => ?_, fun y hy => ?_, fun hn y hy => ?_, fun y hy z hz => ?_, ?_, fun k hk => ?_⟩
  · rcases List.mem_append.1 hy with hy | hy
    · rw [look2_set hl, if_neg (Ne.symm (hne y hy))]; exact h.look y hy
    · rw [List.mem_singleton.1 hy, look2_set hl, if_pos rfl]
  · rw [look2_set hl, if_neg (hk x (by simp)), h.rest k fun y hy => hk y (by simp [hy])]
  · rw [List.map_append]
    refine List.nodup_append.2 ⟨h.keys, by simp, fun a ha b hb he => ?_⟩
    obtain ⟨y, hy, rfl⟩ := List.mem_map.1 ha
    simp at hb
    exact hne y hy (he.trans hb)
  · rcases List.mem_append.1 hy with hy | hy
    · rcases h.key y hy with ⟨a, b⟩ | a
      · exact .inl ⟨by simp [a], b⟩
      · exact .inr a
    · rw [List.mem_singleton.1 hy]; exact .inl ⟨by simp, hold⟩
  · rcases List.mem_append.1 hk with hk | hk
    · obtain ⟨y, hy, he⟩ := h.cov k hk; exact ⟨y, by simp [hy], he⟩
    · exact ⟨x, by simp, (List.mem_singleton.1 hk).symm⟩
  · rcases List.mem_append.1 hy with hy | hy
    · exact (h.ok y hy).mono fun z hz => by simp [hz]
    · rw [List.mem_singleton.1 hy]; exact hok.mono fun z hz => by simp [hz]
  · rw [rowsP_app] at hn
    have nd := List.nodup_append.1 hn
    rcases List.mem_append.1 hy with hy | hy
    · exact h.nd nd.1 y hy
    · rw [List.mem_singleton.1 hy]; exact hnd (by simpa [rowsP] using nd.2.1)
  · rcases List.mem_append.1 hy with hy | hy
    · rcases h.rows y hy z hz with a | ⟨a, b, c⟩
      · exact .inl a
      · exact .inr ⟨a, b, by simp [c]⟩
    · rw [List.mem_singleton.1 hy] at hz ⊢
      rcases hrow z hz with a | ⟨a, b⟩
      · exact .inl a
      · exact .inr ⟨a, b, by simp⟩
  · rw [rowsP_app]
    refine h.perm.append ?_
    simp [rowsP, hP]
  · rw [lookO_set, if_neg (hk x (by simp)), h.has k fun y hy => hk y (by simp [hy])]
theorem resB_ok {ro : List (List T)} {m : Mst} {s : St} {sl : List E0} {sv : List Value} {Mo : List Nat} {vs : List Value} {cs : List (List T)} : ∀ (ps : List (Nat × List CS)) (es : List EV) (as : List Value) (bs : List (List RC)) (v1 : List Value) (c1 : List (List T)) (M1 : List Nat) (ob : Obs) (nk i j : Nat), bs.all okR = true → KOk ro ob nk → BR m ps es as → (bidsOf ps es).Nodup →
    (∀ b ∈ bidsOf ps es, b < nk ∧ ∃ o, lookO ob b = some o) → ResB s sv ps as bs v1 c1 M1 → Str vs i v1 → StrC cs j c1 →
    ∃ L, Ph ro m s sl sv Mo ob nk (resB sl vs cs ps es bs ob nk i j).ob (resB sl vs cs ps es bs ob nk i j).nk L (bidsOf ps es) M1 ∧ (resB sl vs cs ps es bs ob nk i j).j = j + c1.length := by
  intro ps
  induction ps with
  | nil =>
    intro es as bs v1 c1 M1 ob nk i j _ hk hbr _ _ h _ _
    simp only [ResB] at h
    obtain ⟨rfl, rfl, rfl, rfl⟩ := h
    cases es with
    | nil => exact ⟨[], by simpa [resB, bidsOf] using Ph.nil hk, by simp [resB]⟩
    | cons e es => exact ⟨[], by simpa [resB, bidsOf] using Ph.nil hk, by simp [resB]⟩
  | cons p r ih =>
    obtain ⟨w, k⟩ := p
    intro es as bs v1 c1 M1 ob nk i j hok hk hbr hnd hb h hv hc
    cases es with
    | nil => cases as <;> exact hbr.elim
    | cons e es =>
      cases as with
      | nil => exact hbr.elim
      | cons a as =>
        obtain ⟨hw, hbr⟩ := hbr
        rcases hw with ⟨rfl, b, rfl, rfl, ⟨xs0, hx0⟩, hF⟩ | hw
        · simp only [ResB] at h
          obtain ⟨h', as', x, bs', us, v2, v3, c2, c3, M2, M3, he, rfl, rfl, rfl, hg, h1, h2, rfl⟩ := h
          simp only [List.cons.injEq] at he
          obtain ⟨he, rfl⟩ := he
          have hhb : h' = (m.A b).h := by simp only [pt, Value.pointer.injEq, Option.some.injEq, Addr.mk.injEq] at he; exact he.1.symm
          subst hhb
          simp only [List.all_cons, Bool.and_eq_true] at hok
          have e1 : bidsOf ((2, k) :: r) (EV.o (E0.p b 0) :: es) = b :: bidsOf r es := by simp [bidsOf]
          rw [e1] at hnd hb ⊢
          have hnd' := List.nodup_cons.1 hnd
          obtain ⟨hblt, o0, ho0⟩ := hb b (by simp)
          obtain ⟨L1, g1, g2, g3, g4⟩ := resC_ok (m := m) (sl := sl) (sv := sv) (Mo := Mo) (vs := vs) (cs := cs) x us v2 c2 M2 ob nk i j hok.1 hk h1 hv.app.1 hc.app.1
          have hL1 : ∀ y ∈ L1, nk ≤ y.k := fun y hy => by
            rcases g1.key y hy with ⟨a, _⟩ | ⟨a, _⟩
            · simp at a
            · exact a
          have hob1 : lookO (resC sl vs cs x ob nk i j).ob b = some o0 := by
            rw [g1.has b fun y hy he => by have := hL1 y hy; omega]; exact ho0
          have gs := g1.set (x := ⟨b, .bx (resC sl vs cs x ob nk i j).xs, ⟨(m.A b).nil, (m.A b).h, (m.A b).b, [(m.A b).h]⟩, [(m.A b).h]⟩) hob1 (by simp) hblt ⟨⟨xs0, look2_own hx0⟩, rfl⟩ (.inr ⟨_, us, rfl, rfl, hg, g4⟩) (fun h => h) (fun y hy => .inl hy) rfl
          obtain ⟨L2, f1, f2⟩ := ih es as bs' v3 c3 M3 (setO (resC sl vs cs x ob nk i j).ob b (.bx (resC sl vs cs x ob nk i j).xs)) (resC sl vs cs x ob nk i j).nk (resC sl vs cs x ob nk i j).i (resC sl vs cs x ob nk i j).j hok.2 gs.kok hbr hnd'.2 (fun b' hb' => by
            obtain ⟨h3, o', h4⟩ := hb b' (by simp [hb'])
            refine ⟨Nat.lt_of_lt_of_le h3 g1.le, o', ?_⟩
            have hne : b ≠ b' := fun he => hnd'.1 (he ▸ hb')
            rw [lookO_set, if_neg hne, g1.has b' fun y hy he => by have := hL1 y hy; omega]; exact h4) h2 (by rw [g2]; exact hv.app.2) (by rw [g3]; exact hc.app.2)
          have hcomp := gs.comp f1 (fun k hk => by simp at hk; subst hk; exact hnd'.1) (fun k hk => by simp at hk; subst hk; exact hblt) (fun k hk => (hb k (by simp [hk])).1)
          have e3 : resB sl vs cs ((2, k) :: r) (EV.o (E0.p b 0) :: es) (x :: bs') ob nk i j = resB sl vs cs r es bs' (setO (resC sl vs cs x ob nk i j).ob b (.bx (resC sl vs cs x ob nk i j).xs)) (resC sl vs cs x ob nk i j).nk (resC sl vs cs x ob nk i j).i (resC sl vs cs x ob nk i j).j := by simp only [resB]
          rw [e3]
          refine ⟨_, ⟨hcomp.look, hcomp.rest, hcomp.kok, hcomp.le, hcomp.keys, fun y hy => by simpa using hcomp.key y hy, fun y hy => hcomp.cov y (by simpa using hy), hcomp.ok, hcomp.nd, fun y hy z hz => by simpa using hcomp.rows y hy z hz, hcomp.perm.trans ?_, hcomp.has⟩, ?_⟩
          · apply List.perm_iff_count.2
            intro z
            simp only [List.count_append, List.count_cons, List.count_nil]; omega
          · rw [f2, g3, List.length_append]; omega
        · have e1 : bidsOf ((w, k) :: r) (e :: es) = bidsOf r es := by
            match w, hw with
            | 0, _ => simp [bidsOf]
            | 1, _ => simp [bidsOf]
          have e2 : resB sl vs cs ((w, k) :: r) (e :: es) bs ob nk i j = resB sl vs cs r es bs ob nk i j := by
            match w, hw with
            | 0, _ => simp [resB]
            | 1, _ => simp [resB]
          have h2 : ResB s sv r as bs v1 c1 M1 := by
            match w, hw, h with
            | 0, _, h => simp only [ResB] at h; obtain ⟨_, _, he, h⟩ := h; cases he; exact h
            | 1, _, h => simp only [ResB] at h; obtain ⟨_, _, he, h⟩ := h; cases he; exact h
          rw [e1] at hnd hb ⊢
          rw [e2]
          exact ih es as bs v1 c1 M1 ob nk i j hok hk hbr hnd hb h2 hv hc
theorem nput_same : ∀ {pre : List Nat} {cs ds : List T}, node cs pre = some ds → nput cs pre ds = cs
  | [], cs, ds, h => by simp only [node, Option.some.injEq] at h; simp [nput, h]
  | i :: r, cs, ds, h => by
    simp only [node] at h
    split at h
    · rename_i e es hi
      simp only [nput, hi, nput_same h]
      obtain ⟨hlt, he⟩ := List.getElem?_eq_some_iff.1 hi
      rw [← he]; exact List.set_getElem_self hlt
    · cases h
end Go.Proofs.Ytmikdglafmfnfaa.Eng
