/- The pure engine's truth: functions. -/
import Derived.Test.YtmikdglafmfnfaaEngPr
namespace Go.Proofs.Ytmikdglafmfnfaa.Eng
open Go Go.RowKit
set_option linter.unusedVariables false
set_option linter.unusedSimpArgs false
set_option linter.constructorNameAsVariable false
/-! ### What goes out -/
theorem sub_TR {B : Bas} {ro : List (List T)} {m : Mst} (hm : Mem B ro m) {k e off n : Nat} {c : List T} {u : Value} (hl : look2 ro m.ob k = some (.ls true c)) (hr : E0R ro m (.s k [] off n e) u) : ∃ F, TR m.s true (.l e (sub2 c [] off (n * e))) u F ∧ F.Sublist (m.A k).F := by
  obtain ⟨_, _, hr⟩ := hr
  rcases hr _ _ hl with ⟨rfl, rfl⟩ | ⟨ds, h, b, h1, h2, h3, h4, rfl⟩
  · refine ⟨[], TR_l.2 (.inl ⟨rfl, ?_, rfl⟩), List.nil_sublist _⟩
    unfold sub2; simp [node]
  · obtain ⟨F, hw, hF⟩ := hm.node hl h3 h1 h4
    obtain ⟨F', hw', hF'⟩ := hw.sub h2
    have hs : sub2 c [] off (n * e) = (ds.drop off).take (n * e) := by unfold sub2; rw [h1]
    refine ⟨F', TR_l.2 (.inr ⟨h, b + off, n, rfl, ?_, by rw [hs]; exact hw'⟩), hF'.trans hF⟩
    rw [hs, List.length_take, List.length_drop]; omega
theorem Mov.add {B : Bas} {ro : List (List T)} {m : Mst} (hm : Mem B ro m) {k : Nat} {o : Ob2} {F Fn dl : List Nat} (hk : look2 ro m.ob k = some o) (how : isOwn o = true) (hF : F.Sublist (m.A k).F) (h : Mov m dl Fn) (hd : ∀ j ∈ dl, ∃ o, look2 ro m.ob j = some o) (hkd : k ∉ dl) : Mov m (dl ++ [k]) (F ++ Fn) := by
  refine ⟨List.nodup_append.2 ⟨hF.nodup (hm.own k o hk how).1, h.nd, fun y hy z hz he => ?_⟩, fun y hy => ?_⟩
  · subst he
    obtain ⟨j, hj, hjy⟩ := h.fr y hz
    obtain ⟨o2, ho2⟩ := hd j hj
    exact hm.dis k j o o2 (fun he => hkd (he ▸ hj)) hk ho2 how y (hF.subset hy) hjy
  · rcases List.mem_append.1 hy with hy | hy
    · exact ⟨k, by simp, hF.subset hy⟩
    · obtain ⟨j, hj, hjy⟩ := h.fr y hy; exact ⟨j, by simp [hj], hjy⟩
theorem outC_ok {B : Bas} {ro : List (List T)} {m : Mst} {sids : List (Nat × Nat)} {sv : List Value} (hm : Mem B ro m) : ∀ (rcs : List RC) (xs : List E0) (us : List Value) (ob ob' : Obs) (v : List Value) (c : List (List T)) (dl : List Nat), (∀ j, RC.a j ∈ rcs → ∀ k e, sids.getD j (k + 1, 0) = (k, e) → k < ro.length → ∃ w, sv[j]? = some w ∧ E0R ro m (.t k e) w) →
    Gone ro m.ob ob m.nk dl → outC ro.length sids rcs xs ob = some (v, c, ob') → AllE (E0R ro m) xs us →
    ∃ dl' M1, Gone ro m.ob ob' m.nk (dl' ++ dl) ∧ ResC m.s sv rcs us v c M1 ∧ Mov m dl' M1 ∧ ∀ k ∈ dl', k ∉ dl
  | [], [], us, ob, ob', v, c, dl, _, hg, h, ha => by
    simp only [outC, Option.some.injEq, Prod.mk.injEq] at h
    obtain ⟨rfl, rfl, rfl⟩ := h
    cases us with
    | nil => exact ⟨[], [], hg, by simp [ResC], Mov.nil m, fun k hk => by simp at hk⟩
    | cons _ _ => exact ha.elim
  | [], x :: xs, us, ob, ob', v, c, dl, _, hg, h, ha => by simp [outC] at h
  | r0 :: r, [], us, ob, ob', v, c, dl, _, hg, h, ha => by cases r0 <;> simp [outC] at h
  | r0 :: r, x :: xs, [], ob, ob', v, c, dl, _, hg, h, ha => ha.elim
  | .v :: r, x :: xs, u :: us, ob, ob', v, c, dl, hA, hg, h, ha => by
    cases x <;> simp only [outC, reduceCtorEq] at h
    simp only [Option.map_eq_some_iff] at h
    obtain ⟨p, h1, h2⟩ := h
    cases h2
    obtain ⟨dl', M1, g1, g2, g3, g4⟩ := outC_ok hm r xs us ob _ _ _ dl (fun j hj => hA j (by simp [hj])) hg h1 ha.2
    exact ⟨dl', M1, g1, by simp only [ResC]; exact ⟨u, us, _, rfl, by rw [ha.1.1], by rw [ha.1.1]; exact ha.1.2, g2⟩, g3, g4⟩
  | .t e :: r, x :: xs, u :: us, ob, ob', v, c, dl, hA, hg, h, ha => by
    have hA' : ∀ j, RC.a j ∈ r → ∀ k e, sids.getD j (k + 1, 0) = (k, e) → k < ro.length → ∃ w, sv[j]? = some w ∧ E0R ro m (.t k e) w := fun j hj => hA j (by simp [hj])
    cases x with
    | z =>
      simp only [outC, Option.map_eq_some_iff] at h
      obtain ⟨p, h1, h2⟩ := h
      cases h2
      obtain ⟨dl', M1, g1, g2, g3, g4⟩ := outC_ok hm r xs us ob _ _ _ dl hA' hg h1 ha.2
      exact ⟨dl', M1, g1, by simp only [ResC]; exact ⟨u, us, [], _, [], M1, rfl, rfl, TR_l.2 (.inl ⟨ha.1, rfl, rfl⟩), rfl, g2⟩, g3, g4⟩
    | t k e' =>
      simp only [outC] at h
      split at h
      · rename_i hb hl
        have := Nat.eq_of_beq_eq_true hb; subst this
        simp only [Option.map_eq_some_iff] at h
        obtain ⟨p, h1, h2⟩ := h
        cases h2
        obtain ⟨hkd, hkm⟩ := hg.at hl
        obtain ⟨dl', M1, g1, g2, g3, g4⟩ := outC_ok hm r xs us _ _ _ _ (k :: dl) hA' (hg.del hl rfl) h1 ha.2
        refine ⟨dl' ++ [k], (m.A k).F ++ M1, by simpa using g1, by simp only [ResC]; exact ⟨u, us, _, _, _, M1, rfl, rfl, own_TR hm hkm ha.1, rfl, g2⟩, g3.add hm hkm rfl (List.Sublist.refl _) (fun j hj => by obtain ⟨o, ho, _⟩ := g1.own j (by simp [hj]); exact ⟨o, ho⟩) (fun hk => g4 k hk (by simp)), fun j hj => ?_⟩
        rcases List.mem_append.1 hj with hj | hj
        · exact fun hd => g4 j hj (by simp [hd])
        · rw [List.mem_singleton.1 hj]; exact hkd
      · cases h
    | s k pre off n e' =>
      cases pre with
      | cons _ _ => simp [outC] at h
      | nil =>
      simp only [outC] at h
      split at h
      · rename_i hb hl
        have := Nat.eq_of_beq_eq_true hb; subst this
        simp only [Option.map_eq_some_iff] at h
        obtain ⟨p, h1, h2⟩ := h
        cases h2
        obtain ⟨hkd, hkm⟩ := hg.at hl
        obtain ⟨F, hF1, hF2⟩ := sub_TR hm hkm ha.1
        obtain ⟨dl', M1, g1, g2, g3, g4⟩ := outC_ok hm r xs us _ _ _ _ (k :: dl) hA' (hg.del hl rfl) h1 ha.2
        refine ⟨dl' ++ [k], F ++ M1, by simpa using g1, by simp only [ResC]; exact ⟨u, us, _, _, _, M1, rfl, rfl, hF1, rfl, g2⟩, g3.add hm hkm rfl hF2 (fun j hj => by obtain ⟨o, ho, _⟩ := g1.own j (by simp [hj]); exact ⟨o, ho⟩) (fun hk => g4 k hk (by simp)), fun j hj => ?_⟩
        rcases List.mem_append.1 hj with hj | hj
        · exact fun hd => g4 j hj (by simp [hd])
        · rw [List.mem_singleton.1 hj]; exact hkd
      · cases h
    | _ => simp [outC] at h
  | .a j :: r, x :: xs, u :: us, ob, ob', v, c, dl, hA, hg, h, ha => by
    cases x <;> simp only [outC, reduceCtorEq] at h
    rename_i k e
    split at h
    · rename_i hb
      simp only [Bool.and_eq_true] at hb
      obtain ⟨dl', M1, g1, g2, g3, g4⟩ := outC_ok hm r xs us ob _ _ _ dl (fun j hj => hA j (by simp [hj])) hg h ha.2
      have e1 := Nat.eq_of_beq_eq_true hb.1.1
      have e2 := Nat.eq_of_beq_eq_true hb.1.2
      have hk : k < ro.length := Nat.le_of_ble_eq_true hb.2
      obtain ⟨w, hw1, hw2⟩ := hA j (by simp) k e (Prod.ext e1.symm e2.symm) hk
      have key : sv[j]? = some u := by
        rw [hw1]
        obtain ⟨o, ho⟩ := rget_some hk
        obtain ⟨_, cs, rfl⟩ := rget_lt ho
        have hlk : look2 ro m.ob k = some (.ls false cs) := by rw [look2_ro hm.kok hk]; exact ho
        obtain ⟨_, _, hpos, hu⟩ := ha.1
        obtain ⟨_, _, _, hw⟩ := hw2
        rcases hu _ _ hlk with ⟨rfl, h1⟩ | ⟨n, h1, h2, rfl⟩
        · rcases hw _ _ hlk with ⟨rfl, _⟩ | ⟨n', h3, _⟩
          · rfl
          · rw [h1] at h3; cases h3
        · rcases hw _ _ hlk with ⟨_, h3⟩ | ⟨n', _, h3, rfl⟩
          · rw [h1] at h3; cases h3
          · rw [h2] at h3
            have := Nat.eq_of_mul_eq_mul_right hpos h3
            rw [this]
      refine ⟨dl', M1, g1, ?_, g3, g4⟩
      simp only [ResC]
      exact ⟨u, us, rfl, key, g2⟩
    · cases h
/-- What an alias leads to. -/
def SidA (ro : List (List T)) (m : Mst) (sids : List (Nat × Nat)) (sv : List Value) : Prop := ∀ j k e, sids.getD j (k + 1, 0) = (k, e) → k < ro.length → ∃ w, sv[j]? = some w ∧ E0R ro m (.t k e) w
theorem outW_ok {B : Bas} {ro : List (List T)} {m : Mst} {sids : List (Nat × Nat)} {sv : List Value} (hm : Mem B ro m) {w : Nat} {k : List RC} {e : EV} {a : Value} {ob ob' : Obs} {v : List Value} {c : List (List T)} {dl : List Nat} (hA : (∃ j, RC.a j ∈ k) → SidA ro m sids sv)
    (hg : Gone ro m.ob ob m.nk dl) (h : outW ro.length sids w k e ob = some (v, c, ob')) (ha : EVR (E0R ro m) e a) :
    ∃ dl' us M1 M2, Gone ro m.ob ob' m.nk (dl' ++ dl) ∧ ResC m.s sv k us v c M1 ∧ Mov m dl' M2 ∧ (∀ k ∈ dl', k ∉ dl) ∧ notTup a = true ∧ (match w with
      | 0 => us = [a] ∧ M2 = M1
      | 1 => a = .agg us.toArray ∧ M2 = M1
      | _ => ∃ h, a = pt h 0 ∧ m.s.get h = some ⟨us, true⟩ ∧ M2 = h :: M1) := by
  have hA' : ∀ j, RC.a j ∈ k → ∀ k e, sids.getD j (k + 1, 0) = (k, e) → k < ro.length → ∃ w, sv[j]? = some w ∧ E0R ro m (.t k e) w := fun j hj => hA ⟨j, hj⟩ j
  unfold outW at h
  split at h
  · rename_i x
    obtain ⟨dl', M1, g1, g2, g3, g4⟩ := outC_ok hm k [x] [a] ob ob' v c dl hA' hg h ⟨ha, trivial⟩
    refine ⟨dl', [a], M1, M1, g1, g2, g3, g4, ?_, rfl, rfl⟩
    have one_nt : ∀ {a : Value}, one a = true → notTup a = true := fun {a} h => by cases a <;> simp [one] at h <;> rfl
    have hno : ∀ {y : E0}, (y = .w ∨ ∃ q, y = .q q) → outC ro.length sids k [y] ob = none := fun {y} hy => by
      rcases hy with rfl | ⟨q, rfl⟩
      · cases k with
        | nil => rfl
        | cons r0 r => cases r0 <;> rfl
      · cases k with
        | nil => rfl
        | cons r0 r => cases r0 <;> rfl
    cases x with
    | v b => have ha1 := ha.1; have ha2 := ha.2; subst ha1; cases a <;> simp [plain] at ha2 <;> rfl
    | q b => rw [hno (.inr ⟨b, rfl⟩)] at h; cases h
    | z => have ha1 : a = nl := ha; rw [ha1]; rfl
    | w => rw [hno (.inl rfl)] at h; cases h
    | p _ _ => exact one_nt ha.2.1
    | e _ _ _ => exact one_nt ha.2.1
    | s _ _ _ _ _ => exact one_nt ha.2.1
    | t _ _ => exact one_nt ha.2.1
    | n _ _ _ => exact one_nt ha.2.1
  · rename_i xs
    obtain ⟨us, rfl, hx⟩ := ha
    obtain ⟨dl', M1, g1, g2, g3, g4⟩ := outC_ok hm k xs us ob ob' v c dl hA' hg h hx
    exact ⟨dl', us, M1, M1, g1, g2, g3, g4, rfl, rfl, rfl⟩
  · rename_i b
    obtain ⟨xs, hl, h⟩ : ∃ xs, lookO ob b = some (.bx xs) ∧ outC ro.length sids k xs (delO ob b) = some (v, c, ob') := by
      cases hl : lookO ob b with
      | none => rw [hl] at h; cases h
      | some o => cases o with
        | bx xs => rw [hl] at h; exact ⟨xs, rfl, h⟩
        | ls o cs => rw [hl] at h; cases h
    · skip
      obtain ⟨hbd, hbm⟩ := hg.at hl
      obtain ⟨hF, us, hgt, hx⟩ := hm.obr b _ hbm
      obtain ⟨dl', M1, g1, g2, g3, g4⟩ := outC_ok hm k xs us _ ob' v c (b :: dl) hA' (hg.del hl rfl) h hx
      refine ⟨dl' ++ [b], us, M1, (m.A b).h :: M1, by simpa using g1, g2, ?_, fun j hj => ?_, ?_, (m.A b).h, ha.2.2 xs hbm, hgt, rfl⟩
      · have := g3.add hm hbm rfl (F := [(m.A b).h]) (by rw [hF]; exact List.Sublist.refl _) (fun j hj => by obtain ⟨o, ho, _⟩ := g1.own j (by simp [hj]); exact ⟨o, ho⟩) (fun hk => g4 b hk (by simp))
        exact this
      · rcases List.mem_append.1 hj with hj | hj
        · exact fun hd => g4 j hj (by simp [hd])
        · rw [List.mem_singleton.1 hj]; exact hbd
      · rw [ha.2.2 xs hbm]; rfl
  · cases h
theorem Mov.app {B : Bas} {ro : List (List T)} {m : Mst} (hm : Mem B ro m) {d1 d2 F1 F2 : List Nat} (h1 : Mov m d1 F1) (h2 : Mov m d2 F2) (hd : ∀ k ∈ d2, k ∉ d1) (ho : ∀ k, k ∈ d1 ∨ k ∈ d2 → ∃ o, look2 ro m.ob k = some o ∧ isOwn o = true) : Mov m (d2 ++ d1) (F1 ++ F2) := by
  refine ⟨List.nodup_append.2 ⟨h1.nd, h2.nd, fun y hy z hz he => ?_⟩, fun y hy => ?_⟩
  · subst he
    obtain ⟨j, hj, hjy⟩ := h1.fr y hy
    obtain ⟨k, hk, hky⟩ := h2.fr y hz
    obtain ⟨o1, ho1, how⟩ := ho j (.inl hj)
    obtain ⟨o2, ho2, _⟩ := ho k (.inr hk)
    exact hm.dis j k o1 o2 (fun he => hd k hk (he ▸ hj)) ho1 ho2 how y hjy hky
  · rcases List.mem_append.1 hy with hy | hy
    · obtain ⟨j, hj, hjy⟩ := h1.fr y hy; exact ⟨j, by simp [hj], hjy⟩
    · obtain ⟨j, hj, hjy⟩ := h2.fr y hy; exact ⟨j, by simp [hj], hjy⟩
theorem outV_ok {B : Bas} {ro : List (List T)} {m : Mst} {sids : List (Nat × Nat)} {sv : List Value} (hm : Mem B ro m) : ∀ (rs : List (Nat × List RC)) (es : List EV) (as : List Value) (ob ob' : Obs) (v : List Value) (c : List (List T)) (dl : List Nat), ((∃ p ∈ rs, ∃ j, RC.a j ∈ p.2) → SidA ro m sids sv) →
    Gone ro m.ob ob m.nk dl → outV ro.length sids rs es ob = some (v, c, ob') → AllV (EVR (E0R ro m)) es as →
    ∃ dl' M1, Gone ro m.ob ob' m.nk (dl' ++ dl) ∧ ResV m.s sv rs as v c M1 ∧ Mov m dl' M1 ∧ (∀ k ∈ dl', k ∉ dl) ∧ ∀ a ∈ as, notTup a = true
  | [], [], as, ob, ob', v, c, dl, _, hg, h, ha => by
    simp only [outV, Option.some.injEq, Prod.mk.injEq] at h
    obtain ⟨rfl, rfl, rfl⟩ := h
    cases as with
    | nil => exact ⟨[], [], hg, by simp [ResV], Mov.nil m, fun k hk => by simp at hk, fun a ha => by simp at ha⟩
    | cons _ _ => exact ha.elim
  | [], e :: es, as, ob, ob', v, c, dl, _, hg, h, ha => by simp [outV] at h
  | (w, k) :: r, [], as, ob, ob', v, c, dl, _, hg, h, ha => by simp [outV] at h
  | (w, k) :: r, e :: es, [], ob, ob', v, c, dl, _, hg, h, ha => ha.elim
  | (w, k) :: r, e :: es, a :: as, ob, ob', v, c, dl, hA, hg, h, ha => by
    simp only [outV, Option.bind_eq_some_iff, Option.map_eq_some_iff] at h
    obtain ⟨⟨v1, c1, ob1⟩, h1, ⟨v2, c2, ob2⟩, h2, h3⟩ := h
    cases h3
    obtain ⟨d1, us, M1, M2, g1, g2, g3, g4, g5, g6⟩ := outW_ok hm (fun ⟨j, hj⟩ => hA ⟨(w, k), by simp, j, hj⟩) hg h1 ha.1
    obtain ⟨d2, M3, f1, f2, f3, f4, f5⟩ := outV_ok hm r es as ob1 ob2 v2 c2 (d1 ++ dl) (fun ⟨p, hp, hj⟩ => hA ⟨p, by simp [hp], hj⟩) g1 h2 ha.2
    refine ⟨d2 ++ d1, M2 ++ M3, by rw [List.append_assoc]; exact f1, ?_, g3.app hm f3 (fun k hk => fun hd => f4 k hk (by simp [hd])) (fun k hk => f1.own k (by rcases hk with hk | hk <;> simp [hk])), fun k hk => ?_, fun b hb => ?_⟩
    · simp only [ResV]
      refine ⟨a, as, us, v1, v2, c1, c2, M1, M3, rfl, rfl, rfl, g2, f2, ?_⟩
      rcases w with _ | _ | n
      · exact ⟨g6.1, by rw [g6.2]⟩
      · exact ⟨g6.1, by rw [g6.2]⟩
      · obtain ⟨h, q1, q2, q3⟩ := g6; exact ⟨h, q1, q2, by rw [q3]; rfl⟩
    · rcases List.mem_append.1 hk with hk | hk
      · exact fun hd => f4 k hk (by simp [hd])
      · exact g4 k hk
    · rcases List.mem_cons.1 hb with rfl | hb
      · exact g5
      · exact f5 b hb
end Go.Proofs.Ytmikdglafmfnfaa.Eng
