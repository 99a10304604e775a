/- The pure engine's truth: a function, whole. -/
import Derived.Test.YtmikdglafmfnfaaEngPs
namespace Go.Proofs.Ytmikdglafmfnfaa.Eng
open Go Go.RowKit
set_option linter.unusedVariables false
set_option linter.unusedSimpArgs false
set_option linter.constructorNameAsVariable false
def bpV : List (Nat × List CS) → List Value → List Value
  | (2, _) :: r, a :: as => a :: bpV r as
  | _ :: r, _ :: as => bpV r as
  | _, _ => []
def muV : List CS → List Value → List Value
  | .v :: r, sv => muV r sv
  | .t _ 1 :: r, u :: sv => u :: muV r sv
  | .t _ _ :: r, _ :: sv => muV r sv
  | _, _ => []
theorem outB_ok {B : Bas} {ro : List (List T)} {m : Mst} {sids : List (Nat × Nat)} {sv : List Value} (hm : Mem B ro m) : ∀ (ps : List (Nat × List CS)) (as : List Value) (bs : List (List RC)) (pins : List E0) (ob ob' : Obs) (v : List Value) (c : List (List T)) (dl : List Nat), ((∃ p ∈ bs, ∃ j, RC.a j ∈ p) → SidA ro m sids sv) → ps.length = as.length → (∀ p ∈ ps, p.1 ≤ 2) →
    Gone ro m.ob ob m.nk dl → outB ro.length sids bs pins ob = some (v, c, ob') → AllE (E0R ro m) pins (bpV ps as) →
    ∃ dl' M1, Gone ro m.ob ob' m.nk (dl' ++ dl) ∧ ResB m.s sv ps as bs v c M1 ∧ Mov m dl' M1 ∧ ∀ k ∈ dl', k ∉ dl
  | [], [], bs, pins, ob, ob', v, c, dl, _, _, _, hg, h, ha => by
    cases pins with
    | cons _ _ => exact ha.elim
    | nil =>
      cases bs with
      | cons _ _ => simp [outB] at h
      | nil =>
        simp only [outB, Option.some.injEq, Prod.mk.injEq] at h
        obtain ⟨rfl, rfl, rfl⟩ := h
        exact ⟨[], [], hg, by simp [ResB], Mov.nil m, fun k hk => by simp at hk⟩
  | [], a :: as, bs, pins, ob, ob', v, c, dl, _, hl, _, _, _, _ => by simp at hl
  | p :: ps, [], bs, pins, ob, ob', v, c, dl, _, hl, _, _, _, _ => by simp at hl
  | (w, k) :: ps, a :: as, bs, pins, ob, ob', v, c, dl, hA, hl, hw, hg, h, ha => by
    have hw2 := hw (w, k) (by simp)
    match w, hw2, ha with
    | 0, _, ha =>
      obtain ⟨dl', M1, g1, g2, g3, g4⟩ := outB_ok hm ps as bs pins ob ob' v c dl hA (by simpa using hl) (fun p hp => hw p (by simp [hp])) hg h (by simpa [bpV] using ha)
      exact ⟨dl', M1, g1, by simp only [ResB]; exact ⟨a, as, rfl, g2⟩, g3, g4⟩
    | 1, _, ha =>
      obtain ⟨dl', M1, g1, g2, g3, g4⟩ := outB_ok hm ps as bs pins ob ob' v c dl hA (by simpa using hl) (fun p hp => hw p (by simp [hp])) hg h (by simpa [bpV] using ha)
      exact ⟨dl', M1, g1, by simp only [ResB]; exact ⟨a, as, rfl, g2⟩, g3, g4⟩
    | 2, _, ha =>
      simp only [bpV] at ha
      cases pins with
      | nil => exact ha.elim
      | cons x pins =>
        obtain ⟨hx, har⟩ := ha
        cases bs with
        | nil => simp [outB] at h
        | cons b bs =>
          obtain ⟨bb, rfl, xs, hlb, h⟩ : ∃ bb, x = .p bb 0 ∧ ∃ xs, lookO ob bb = some (.bx xs) ∧ ((outC ro.length sids b xs (delO ob bb)).bind fun p => (outB ro.length sids bs pins p.2.2).map fun q => (p.1 ++ q.1, p.2.1 ++ q.2.1, q.2.2)) = some (v, c, ob') := by
            cases x <;> try (simp [outB] at h; done)
            rename_i bb off
            cases off with
            | succ n => simp [outB] at h
            | zero =>
              simp only [outB] at h
              cases hl : lookO ob bb with
              | none => rw [hl] at h; cases h
              | some o => cases o with
                | bx xs => rw [hl] at h; exact ⟨bb, rfl, xs, hl, h⟩
                | ls _ _ => rw [hl] at h; cases h
          simp only [Option.bind_eq_some_iff, Option.map_eq_some_iff] at h
          obtain ⟨⟨v1, c1, ob1⟩, h1, ⟨v2, c2, ob2⟩, h2, h3⟩ := h
          cases h3
          obtain ⟨hbd, hbm⟩ := hg.at hlb
          obtain ⟨hF, us, hgt, hxs⟩ := hm.obr bb _ hbm
          obtain ⟨d1, M1, g1, g2, g3, g4⟩ := outC_ok hm b xs us _ ob1 v1 c1 (bb :: dl) (fun j hj => hA ⟨b, by simp, j, hj⟩ j) (hg.del hlb rfl) h1 hxs
          obtain ⟨d2, M2, f1, f2, f3, f4⟩ := outB_ok hm ps as bs pins ob1 ob2 v2 c2 (d1 ++ bb :: dl) (fun ⟨p, hp, hj⟩ => hA ⟨p, by simp [hp], hj⟩) (by simpa using hl) (fun p hp => hw p (by simp [hp])) g1 h2 har
          have hm1 : Mov m (d1 ++ [bb]) ((m.A bb).h :: M1) := g3.add hm hbm rfl (F := [(m.A bb).h]) (by rw [hF]; exact List.Sublist.refl _) (fun j hj => by obtain ⟨o, ho, _⟩ := g1.own j (by simp [hj]); exact ⟨o, ho⟩) (fun hk => g4 bb hk (by simp))
          refine ⟨d2 ++ (d1 ++ [bb]), (m.A bb).h :: (M1 ++ M2), by simpa using f1, ?_, hm1.app hm f3 (fun k hk => fun hd => f4 k hk (by
            simp only [List.mem_append, List.mem_cons, List.not_mem_nil, or_false] at hd ⊢
            rcases hd with hd | hd
            · exact .inl hd
            · exact .inr (.inl hd))) (fun k hk => f1.own k (by
            simp only [List.mem_append, List.mem_cons, List.not_mem_nil, or_false] at hk ⊢
            rcases hk with (hk | hk) | hk
            · exact .inr (.inl hk)
            · exact .inr (.inr (.inl hk))
            · exact .inl hk)), fun k hk => ?_⟩
          · have hpt := hx.2.2 xs hbm
            simp only [ResB]
            exact ⟨(m.A bb).h, as, b, bs, us, v1, v2, c1, c2, M1, M2, by rw [hpt], rfl, rfl, rfl, hgt, g2, f2, rfl⟩
          · simp at hk
            rcases hk with hk | hk | hk
            · exact fun hd => f4 k hk (by simp [hd])
            · exact fun hd => g4 k hk (by simp [hd])
            · rw [hk]; exact hbd
theorem outM_ok {B : Bas} {ro : List (List T)} {m : Mst} (hm : Mem B ro m) {s0 : St} : ∀ (css : List CS) (us vs : List Value) (cs : List (List T)) (sv : List Value) (M0 D0 : List Nat) (pins : List E0) (ob : Obs) (l : List (List T)) (dl : List Nat), CellsR s0 css us vs cs sv M0 D0 →
    Gone ro m.ob ob m.nk dl → outM pins ob = some l → AllE (E0R ro m) pins (muV css sv) →
    ∃ dl' M1, (∀ k ∈ dl', ∃ o, look2 ro m.ob k = some o ∧ isOwn o = true) ∧ ResM m.s css sv cs l M1 ∧ Mov m dl' M1 ∧ ∀ k ∈ dl', k ∉ dl
  | [], us, vs, cs, sv, M0, D0, pins, ob, l, dl, hc, hg, h, ha => by
    have : muV [] sv = [] := by simp [muV]
    rw [this] at ha
    cases pins with
    | cons _ _ => exact ha.elim
    | nil =>
      simp only [outM, Option.some.injEq] at h; subst h
      exact ⟨[], [], fun k hk => by simp at hk, by simp [ResM], Mov.nil m, fun k hk => by simp at hk⟩
  | .v :: r, us, vs, cs, sv, M0, D0, pins, ob, l, dl, hc, hg, h, ha => by
    simp only [CellsR] at hc
    obtain ⟨u, us', vs', rfl, rfl, _, hc⟩ := hc
    simp only [muV] at ha
    simp only [ResM]
    exact outM_ok hm r us' vs' cs sv M0 D0 pins ob l dl hc hg h ha
  | .t e md :: r, us, vs, cs, sv, M0, D0, pins, ob, l, dl, hc, hg, h, ha => by
    simp only [CellsR] at hc
    obtain ⟨u, us', c, cs', sv', F, M', D', rfl, rfl, rfl, ht, _, hc⟩ := hc
    match md, ha, ht with
    | 0, ha, _ =>
      simp only [muV] at ha
      obtain ⟨dl', M1, g1, g2, g3, g4⟩ := outM_ok hm r us' vs cs' sv' M' D' pins ob l dl hc hg h ha
      exact ⟨dl', M1, g1, by simp only [ResM]; exact ⟨u, sv', c, cs', rfl, rfl, g2⟩, g3, g4⟩
    | n + 2, ha, _ =>
      simp only [muV] at ha
      obtain ⟨dl', M1, g1, g2, g3, g4⟩ := outM_ok hm r us' vs cs' sv' M' D' pins ob l dl hc hg h ha
      exact ⟨dl', M1, g1, by simp only [ResM]; exact ⟨u, sv', c, cs', rfl, rfl, g2⟩, g3, g4⟩
    | 1, ha, ht =>
      simp only [muV] at ha
      cases pins with
      | nil => exact ha.elim
      | cons x pins =>
        obtain ⟨hx, har⟩ := ha
        obtain ⟨k, e', rfl, c', hl, l', hrest, rfl⟩ : ∃ k e', x = .t k e' ∧ ∃ c', lookO ob k = some (.ls true c') ∧ ∃ l', outM pins (delO ob k) = some l' ∧ l = c' :: l' := by
          cases x <;> try (simp [outM] at h; done)
          rename_i k e'
          simp only [outM] at h
          cases hl : lookO ob k with
          | none => rw [hl] at h; cases h
          | some o => cases o with
            | bx _ => rw [hl] at h; cases h
            | ls o c' =>
              rw [hl] at h
              cases o with
              | false => cases h
              | true =>
                simp only [Option.map_eq_some_iff] at h
                obtain ⟨l', h1, h2⟩ := h
                exact ⟨k, e', rfl, c', hl, l', h1, h2.symm⟩
        obtain ⟨hkd, hkm⟩ := hg.at hl
        obtain ⟨dl', M1, g1, g2, g3, g4⟩ := outM_ok hm r us' vs cs' sv' M' D' pins _ l' (k :: dl) hc (hg.del hl rfl) hrest har
        have key : TR m.s true (.l e c') u (m.A k).F ∧ c'.length = c.length := by
          obtain ⟨_, _, _, hx⟩ := hx
          rcases TR_l.1 ht with ⟨rfl, rfl, _⟩ | ⟨h0, b0, n, rfl, hlen, _⟩
          · rcases hx _ _ hkm with ⟨_, h1⟩ | ⟨n, _, _, h1⟩
            · rcases hm.obr k _ hkm with ⟨_, rfl, hF⟩ | ⟨h2, _⟩
              · exact ⟨by rw [hF]; exact TR_l.2 (.inl ⟨rfl, rfl, rfl⟩), rfl⟩
              · rw [h1] at h2; cases h2
            · cases h1
          · rcases hx _ _ hkm with ⟨h1, _⟩ | ⟨n', h1, h2, h3⟩
            · cases h1
            · rcases hm.obr k _ hkm with ⟨h4, _⟩ | ⟨_, hw⟩
              · rw [h1] at h4; cases h4
              · cases h3
                exact ⟨TR_l.2 (.inr ⟨_, _, n, rfl, h2, hw⟩), by rw [h2, hlen]⟩
        refine ⟨dl' ++ [k], (m.A k).F ++ M1, fun j hj => ?_, by simp only [ResM]; exact ⟨u, sv', c, cs', c', l', _, M1, rfl, rfl, rfl, key.1, key.2, rfl, g2⟩, g3.add hm hkm rfl (List.Sublist.refl _) (fun j hj => by obtain ⟨o, ho, _⟩ := g1 j hj; exact ⟨o, ho⟩) (fun hk => g4 k hk (by simp)), fun j hj => ?_⟩
        · rcases List.mem_append.1 hj with hj | hj
          · exact g1 j hj
          · rw [List.mem_singleton.1 hj]; exact ⟨_, hkm, rfl⟩
        · rcases List.mem_append.1 hj with hj | hj
          · exact fun hd => g4 j hj (by simp [hd])
          · rw [List.mem_singleton.1 hj]; exact hkd
/-! ### Results of the code -/
theorem resEs_ok {B : Bas} {ro : List (List T)} {m : Mst} {P : Program} {env : Env2} {env1 : Env} {pins : List E0} (hm : Mem B ro m) (hE : EnvR ro m env env1) : ∀ (rs : List ResultVar) (es : List EV), resEs ⟨m.ob, m.nk, env, pins⟩ P rs = some es →
    ∃ as, AllV (EVR (E0R ro m)) es as ∧ ∀ (acc : List Value) (K1 : Value → Q), ((acc ++ as).all notTup = true ∨ (acc ++ as).length = 1) → K1 (bundle (acc ++ as)) m.s → retQ P rs acc env1 K1 m.s
  | [], es, h => by
    simp only [resEs, Option.some.injEq] at h; subst h
    refine ⟨[], trivial, fun acc K1 hn hk => ?_⟩
    rw [List.append_nil] at hn hk
    simp only [retQ]
    match acc, hn, hk with
    | [v], _, hk => exact hk
    | [], hn, hk => exact ⟨hn.resolve_right (by simp), hk⟩
    | a :: b :: r, hn, hk => exact ⟨hn.resolve_right (by simp), hk⟩
  | .tmp t :: r, es, h => by
    simp only [resEs, Option.map_eq_some_iff] at h
    obtain ⟨l, h1, rfl⟩ := h
    obtain ⟨as, g1, g2⟩ := resEs_ok hm hE r l h1
    refine ⟨lk env1 t :: as, ⟨tk_ok (fun g w h => by simp [mem2] at h) (hE t), g1⟩, fun acc K1 hn hk => ?_⟩
    simp only [retQ]
    exact g2 (acc ++ [lk env1 t]) K1 (by simpa using hn) (by simpa using hk)
  | .cell a t :: r, es, h => by
    simp only [resEs, Option.bind_eq_some_iff] at h
    obtain ⟨sz, hsz, ag, hag, h⟩ := h
    have hx := tk_ok (av := []) (fun g w h => by simp [mem2] at h) (hE a)
    split at h
    · rename_i k off he
      rw [he] at hx
      split at h
      · rename_i xs hl
        split at h
        · rename_i hb
          simp only [Bool.and_eq_true] at hb
          have hlen := Nat.eq_of_beq_eq_true hb.1
          have hpos : 0 < sz := Nat.le_of_ble_eq_true hb.2
          obtain ⟨us, g1, g2, g3, g4⟩ := loadB hm hx hl hlen (.inl (by omega))
          have fin : ∀ (e : EV) (v : Value) (l : List EV), resEs ⟨m.ob, m.nk, env, pins⟩ P r = some l → EVR (E0R ro m) e v → ld ag sz (lk env1 a) m.s = some (v, m.s) → ∃ as, AllV (EVR (E0R ro m)) (e :: l) as ∧ ∀ (acc : List Value) (K1 : Value → Q), ((acc ++ as).all notTup = true ∨ (acc ++ as).length = 1) → K1 (bundle (acc ++ as)) m.s → retQ P (.cell a t :: r) acc env1 K1 m.s := by
            intro e v l h1 hev hld
            obtain ⟨as, k1, k2⟩ := resEs_ok hm hE r l h1
            refine ⟨v :: as, ⟨hev, k1⟩, fun acc K1 hn hk => ?_⟩
            simp only [retQ, hsz, hag]
            exact ⟨v, m.s, hld, k2 (acc ++ [v]) K1 (by simpa using hn) (by simpa using hk)⟩
          cases ag with
          | true =>
            simp only [Option.map_eq_some_iff] at h
            obtain ⟨l, h1, rfl⟩ := h
            exact fin _ _ l h1 ⟨us, rfl, g1⟩ g3
          | false =>
            simp only at h
            split at h
            · rename_i y hy
              simp only [Option.map_eq_some_iff] at h
              obtain ⟨l, h1, rfl⟩ := h
              rw [hy] at hlen g1
              simp at hlen
              subst hlen
              obtain ⟨v, rfl, g5⟩ := AllE_one g1
              exact fin _ _ l h1 g5 (g4 v rfl rfl)
            · cases h
        · cases h
      · cases h
    · cases h
end Go.Proofs.Ytmikdglafmfnfaa.Eng
