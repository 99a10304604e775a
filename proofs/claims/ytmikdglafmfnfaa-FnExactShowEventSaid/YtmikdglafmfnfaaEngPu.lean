/- The pure engine's truth: where a function begins. -/
import Derived.Test.YtmikdglafmfnfaaEngPt
namespace Go.Proofs.Ytmikdglafmfnfaa.Eng
open Go Go.RowKit
set_option linter.unusedVariables false
set_option linter.unusedSimpArgs false
set_option linter.constructorNameAsVariable false
theorem CellsR_app {s : St} {k2 : List CS} {us2 v2 : List Value} {c2 : List (List T)} {s2 : List Value} {M2 D2 : List Nat} (h2 : CellsR s k2 us2 v2 c2 s2 M2 D2) : ∀ {k1 : List CS} {us1 v1 : List Value} {c1 : List (List T)} {s1 : List Value} {M1 D1 : List Nat}, CellsR s k1 us1 v1 c1 s1 M1 D1 → CellsR s (k1 ++ k2) (us1 ++ us2) (v1 ++ v2) (c1 ++ c2) (s1 ++ s2) (M1 ++ M2) (D1 ++ D2)
  | [], us1, v1, c1, s1, M1, D1, h => by
    simp only [CellsR] at h
    obtain ⟨rfl, rfl, rfl, rfl, rfl, rfl⟩ := h
    exact h2
  | .v :: r, us1, v1, c1, s1, M1, D1, h => by
    simp only [CellsR] at h
    obtain ⟨u, us', vs', rfl, rfl, hp, h⟩ := h
    simp only [List.cons_append, CellsR]
    exact ⟨u, _, _, rfl, rfl, hp, CellsR_app h2 h⟩
  | .t e m :: r, us1, v1, c1, s1, M1, D1, h => by
    simp only [CellsR] at h
    obtain ⟨u, us', c, cs', sv', F, M', D', rfl, rfl, rfl, ht, hmd, h⟩ := h
    simp only [List.cons_append, CellsR]
    refine ⟨u, _, c, _, _, F, M' ++ M2, D' ++ D2, rfl, rfl, rfl, ht, ?_, CellsR_app h2 h⟩
    cases m with
    | zero => obtain ⟨rfl, rfl⟩ := hmd; exact ⟨rfl, by rw [List.append_assoc]⟩
    | succ n => obtain ⟨rfl, rfl⟩ := hmd; exact ⟨by rw [List.append_assoc], rfl⟩
theorem ParR_cells {s : St} : ∀ {ps : List (Nat × List CS)} {as vs : List Value} {cs : List (List T)} {sv : List Value} {M D : List Nat}, ParR s ps as vs cs sv M D → (∃ us M', CellsR s (csOf ps) us vs cs sv M' D) ∧ ps.length = as.length
  | [], as, vs, cs, sv, M, D, h => by
    simp only [ParR] at h
    obtain ⟨rfl, rfl, rfl, rfl, rfl, rfl⟩ := h
    exact ⟨⟨[], [], by simp [csOf, CellsR]⟩, rfl⟩
  | (w, k) :: r, as, vs, cs, sv, M, D, h => by
    simp only [ParR] at h
    obtain ⟨a, as', us, v1, v2, c1, c2, s1, s2, M1, M2, D1, D2, rfl, rfl, rfl, rfl, rfl, h1, h2, _⟩ := h
    obtain ⟨⟨us2, M2', h3⟩, h4⟩ := ParR_cells h2
    refine ⟨⟨us ++ us2, M1 ++ M2', ?_⟩, by simp [h4]⟩
    have hc : csOf ((w, k) :: r) = k ++ csOf r := by simp [csOf]
    rw [hc]; exact CellsR_app h3 h1
def roRefs : List CS → Nat → List E0
  | .v :: r, j => roRefs r j
  | .t e 0 :: r, j => .t j e :: roRefs r (j + 1)
  | .t _ _ :: r, j => roRefs r j
  | [], _ => []
def roVals : List CS → List Value → List Value
  | .v :: r, sv => roVals r sv
  | .t _ 0 :: r, u :: sv => u :: roVals r sv
  | .t _ _ :: r, _ :: sv => roVals r sv
  | _, _ => []
def StrE (l : List E0) (j : Nat) (xs : List E0) : Prop := ∀ (t : Nat) x, xs[t]? = some x → l[j + t]? = some x
def StrV (l : List Value) (j : Nat) (xs : List Value) : Prop := ∀ (t : Nat) x, xs[t]? = some x → l[j + t]? = some x
theorem StrE.tl {l : List E0} {j : Nat} {a : E0} {r : List E0} (h : StrE l j (a :: r)) : l[j]? = some a ∧ StrE l (j + 1) r := ⟨h 0 a rfl, fun t x hx => by rw [show j + 1 + t = j + (t + 1) by omega]; exact h (t + 1) x (by simpa using hx)⟩
theorem StrV.tl {l : List Value} {j : Nat} {a : Value} {r : List Value} (h : StrV l j (a :: r)) : l[j]? = some a ∧ StrV l (j + 1) r := ⟨h 0 a rfl, fun t x hx => by rw [show j + 1 + t = j + (t + 1) by omega]; exact h (t + 1) x (by simpa using hx)⟩
theorem StrE.app {l : List E0} {j : Nat} {a b : List E0} (h : StrE l j (a ++ b)) : StrE l j a ∧ StrE l (j + a.length) b :=
  ⟨fun t x hx => h t x (by rw [List.getElem?_append_left (List.getElem?_eq_some_iff.1 hx).1]; exact hx), fun t x hx => by rw [Nat.add_assoc]; exact h (a.length + t) x (by rw [List.getElem?_append_right (by omega)]; simpa using hx)⟩
theorem StrV.app {l : List Value} {j : Nat} {a b : List Value} (h : StrV l j (a ++ b)) : StrV l j a ∧ StrV l (j + a.length) b :=
  ⟨fun t x hx => h t x (by rw [List.getElem?_append_left (List.getElem?_eq_some_iff.1 hx).1]; exact hx), fun t x hx => by rw [Nat.add_assoc]; exact h (a.length + t) x (by rw [List.getElem?_append_right (by omega)]; simpa using hx)⟩
theorem AllE_idx {R : E0 → Value → Prop} {l : List E0} {v : List Value} {j : Nat} {x : E0} {u : Value} (h : AllE R l v) (hx : l[j]? = some x) (hu : v[j]? = some u) : R x u := by
  have := AllE_at h hu
  rw [List.getD_eq_getElem?_getD, hx] at this
  exact this
def AllS (R : E0 → Value → Prop) : List (Nat × Nat) → List Value → Prop
  | [], [] => True
  | x :: xs, u :: us => R (.t x.1 x.2) u ∧ AllS R xs us
  | _, _ => False
theorem AllS.app {R : E0 → Value → Prop} : ∀ {a b : List (Nat × Nat)} {u v : List Value}, AllS R a u → AllS R b v → AllS R (a ++ b) (u ++ v)
  | [], b, [], v, _, h => h
  | x :: a, b, y :: u, v, h, h2 => ⟨h.1, h.2.app h2⟩
  | [], _, _ :: _, _, h, _ => h.elim
  | _ :: _, _, [], _, h, _ => h.elim
theorem inC_ok {ro : List (List T)} {m : Mst} {s : St} {slR : List E0} {svR vs : List Value} {cs : List (List T)} : ∀ (css : List CS) (us v1 : List Value) (c1 : List (List T)) (s1 : List Value) (M1 D1 : List Nat) (ob : Obs) (nk i j rj : Nat), okC css = true → KOk ro ob nk → CellsR s css us v1 c1 s1 M1 D1 → Str vs i v1 → StrC cs j c1 →
    StrE slR rj (roRefs css rj) → StrV svR rj (roVals css s1) →
    ∃ L, Ph ro m s slR svR [] ob nk (inC vs cs css ob nk i j rj).ob (inC vs cs css ob nk i j rj).nk L [] M1 ∧ (inC vs cs css ob nk i j rj).i = i + v1.length ∧ (inC vs cs css ob nk i j rj).j = j + c1.length ∧ (inC vs cs css ob nk i j rj).rj = rj + (roRefs css rj).length ∧ (roVals css s1).length = (roRefs css rj).length ∧
      ∀ ro m', (∀ x ∈ L, Fits ro m' x) → AllE (E0R ro m') slR svR → AllE (E0R ro m') (inC vs cs css ob nk i j rj).xs us ∧ AllS (E0R ro m') (inC vs cs css ob nk i j rj).sids s1 ∧ AllE (E0R ro m') (inC vs cs css ob nk i j rj).mp (muV css s1)
  | [], us, v1, c1, s1, M1, D1, ob, nk, i, j, rj, _, hk, h, _, _, _, _ => by
    simp only [CellsR] at h
    obtain ⟨rfl, rfl, rfl, rfl, rfl, rfl⟩ := h
    exact ⟨[], Ph.nil hk, rfl, rfl, rfl, rfl, fun ro m' _ _ => ⟨trivial, trivial, by simp [inC, muV, AllE]⟩⟩
  | .v :: r, us, v1, c1, s1, M1, D1, ob, nk, i, j, rj, hok, hk, h, hv, hc, he, hw => by
    simp only [CellsR] at h
    obtain ⟨u, us', vs', rfl, rfl, hp, h⟩ := h
    obtain ⟨hv1, hv2⟩ := hv.tl
    simp only [roRefs, roVals] at he hw
    obtain ⟨L, g1, g2, g3, g4, g5, g6⟩ := inC_ok (m := m) r us' vs' c1 s1 M1 D1 ob nk (i + 1) j rj hok hk h hv2 hc he hw
    refine ⟨L, g1, ?_, g3, g4, g5, fun ro m' hf ha => ?_⟩
    · simp only [inC]; rw [g2, List.length_cons]; omega
    · obtain ⟨q1, q2, q3⟩ := g6 ro m' hf ha
      exact ⟨⟨⟨hv1.symm, by rw [hv1]; exact hp⟩, q1⟩, q2, q3⟩
  | .t e md :: r, us, v1, c1, s1, M1, D1, ob, nk, i, j, rj, hok, hk, h, hv, hc, he, hw => by
    simp only [CellsR] at h
    obtain ⟨u, us', c, cs', sv', F, M', D', rfl, rfl, rfl, ht, hmd, h⟩ := h
    simp only [okC, Bool.and_eq_true] at hok
    have hpos : 0 < e := Nat.le_of_ble_eq_true hok.1.1
    obtain ⟨hc1, hc2⟩ := hc.tl
    match md, hmd, ht, he, hw with
    | 0, hmd, ht, he, hw =>
      obtain ⟨rfl, rfl⟩ := hmd
      simp only [roRefs, roVals] at he hw
      obtain ⟨L, g1, g2, g3, g4, g5, g6⟩ := inC_ok (m := m) r us' v1 cs' sv' M1 D' ob nk i (j + 1) (rj + 1) hok.2 hk h hv hc2 he.tl.2 hw.tl.2
      refine ⟨L, g1, g2, ?_, ?_, ?_, fun ro m' hf ha => ?_⟩
      · simp only [inC]; rw [g3, List.length_cons]; omega
      · simp only [inC]; rw [g4]; simp only [roRefs, List.length_cons]; omega
      · simp only [roRefs, roVals, List.length_cons, g5]
      · obtain ⟨q1, q2, q3⟩ := g6 ro m' hf ha
        have hx := AllE_idx ha he.tl.1 hw.tl.1
        exact ⟨⟨hx, q1⟩, ⟨hx, q2⟩, by simpa [inC, muV] using q3⟩
    | 1, hmd, ht, he, hw =>
      obtain ⟨rfl, rfl⟩ := hmd
      simp only [roRefs, roVals] at he hw
      obtain ⟨x, hxk, hxo, hx1, hx2⟩ := Ph.list (m := m) (sl := slR) (sv := svR) (Mo := []) hk ht hpos
      obtain ⟨L, g1, g2, g3, g4, g5, g6⟩ := inC_ok (m := m) r us' v1 cs' sv' M' D1 ((nk, .ls true c) :: ob) (nk + 1) i (j + 1) rj hok.2 hk.cons h hv hc2 he hw
      refine ⟨[x] ++ L, ?_, ?_, ?_, ?_, ?_, fun ro m' hf ha => ?_⟩
      · have := hx1.comp g1 (fun k hk => by simp at hk) (fun k hk => by simp at hk) (fun k hk => by simp at hk)
        simp only [inC, hc1]; exact this
      · simp only [inC, hc1]; exact g2
      · simp only [inC, hc1]; rw [g3, List.length_cons]; omega
      · simp only [inC, hc1]; rw [g4]; simp only [roRefs]
      · simp only [roRefs, roVals, g5]
      · obtain ⟨q1, q2, q3⟩ := g6 ro m' (fun y hy => hf y (by simp [hy])) ha
        have hx := hx2 ro m' (hf x (by simp))
        simp only [inC, hc1, muV]
        exact ⟨⟨hx, q1⟩, ⟨hx, q2⟩, ⟨hx, q3⟩⟩
    | n + 2, hmd, ht, he, hw =>
      obtain ⟨rfl, rfl⟩ := hmd
      simp only [roRefs, roVals] at he hw
      obtain ⟨x, hxk, hxo, hx1, hx2⟩ := Ph.list (m := m) (sl := slR) (sv := svR) (Mo := []) hk ht hpos
      obtain ⟨L, g1, g2, g3, g4, g5, g6⟩ := inC_ok (m := m) r us' v1 cs' sv' M' D1 ((nk, .ls true c) :: ob) (nk + 1) i (j + 1) rj hok.2 hk.cons h hv hc2 he hw
      refine ⟨[x] ++ L, ?_, ?_, ?_, ?_, ?_, fun ro m' hf ha => ?_⟩
      · have := hx1.comp g1 (fun k hk => by simp at hk) (fun k hk => by simp at hk) (fun k hk => by simp at hk)
        simp only [inC, hc1]; exact this
      · simp only [inC, hc1]; exact g2
      · simp only [inC, hc1]; rw [g3, List.length_cons]; omega
      · simp only [inC, hc1]; rw [g4]; simp only [roRefs]
      · simp only [roRefs, roVals, g5]
      · obtain ⟨q1, q2, q3⟩ := g6 ro m' (fun y hy => hf y (by simp [hy])) ha
        have hx := hx2 ro m' (hf x (by simp))
        simp only [inC, hc1, muV]
        exact ⟨⟨hx, q1⟩, ⟨hx, q2⟩, q3⟩
theorem roRefs_app {b : List CS} : ∀ {a : List CS} {j : Nat}, roRefs (a ++ b) j = roRefs a j ++ roRefs b (j + (roRefs a j).length)
  | [], j => by simp [roRefs]
  | .v :: r, j => by simp only [List.cons_append, roRefs]; exact roRefs_app
  | .t e 0 :: r, j => by simp only [List.cons_append, roRefs, roRefs_app (a := r), List.length_cons]; rw [show j + 1 + (roRefs r (j + 1)).length = j + ((roRefs r (j + 1)).length + 1) by omega]
  | .t e (n + 1) :: r, j => by simp only [List.cons_append, roRefs]; exact roRefs_app
theorem roVals_app {b : List CS} {v : List Value} : ∀ {a : List CS} {u : List Value}, u.length = nsl a → roVals (a ++ b) (u ++ v) = roVals a u ++ roVals b v
  | [], u, h => by rw [List.eq_nil_of_length_eq_zero h]; simp [roVals]
  | .v :: r, u, h => by simp only [List.cons_append, roVals]; exact roVals_app h
  | .t e m :: r, [], h => by simp [nsl] at h
  | .t e 0 :: r, x :: u, h => by simp only [List.cons_append, roVals, roVals_app (a := r) (u := u) (by simpa [nsl] using h)]
  | .t e (n + 1) :: r, x :: u, h => by simp only [List.cons_append, roVals, roVals_app (a := r) (u := u) (by simpa [nsl] using h)]
theorem muV_app {b : List CS} {v : List Value} : ∀ {a : List CS} {u : List Value}, u.length = nsl a → muV (a ++ b) (u ++ v) = muV a u ++ muV b v
  | [], u, h => by rw [List.eq_nil_of_length_eq_zero h]; simp [muV]
  | .v :: r, u, h => by simp only [List.cons_append, muV]; exact muV_app h
  | .t e m :: r, [], h => by simp [nsl] at h
  | .t e 0 :: r, x :: u, h => by simp only [List.cons_append, muV, muV_app (a := r) (u := u) (by simpa [nsl] using h)]
  | .t e 1 :: r, x :: u, h => by simp only [List.cons_append, muV, muV_app (a := r) (u := u) (by simpa [nsl] using h)]
  | .t e (n + 2) :: r, x :: u, h => by simp only [List.cons_append, muV, muV_app (a := r) (u := u) (by simpa [nsl] using h)]
end Go.Proofs.Ytmikdglafmfnfaa.Eng
