/- The pure engine's truth: where ways meet. -/
import Derived.Test.YtmikdglafmfnfaaEngPp
import Derived.Test.YtmikdglafmfnfaaEngS
namespace Go.Proofs.Ytmikdglafmfnfaa.Eng
open Go Go.RowKit
set_option linter.unusedVariables false
set_option linter.unusedSimpArgs false
set_option linter.constructorNameAsVariable false
def ExtJ (a b : Jm) : Prop := ∀ x v, lookJ a x = some v → lookJ b x = some v
theorem ExtJ.refl (a : Jm) : ExtJ a a := fun _ _ h => h
theorem ExtJ.trans {a b c : Jm} (h : ExtJ a b) (k : ExtJ b c) : ExtJ a c := fun x v hx => k x v (h x v hx)
theorem lookJ_cons {m : Jm} {a b : Nat} {x : Option Nat} : lookJ ((a, x) :: m) b = if a = b then some x else lookJ m b := by
  simp only [lookJ]
  split
  · rename_i hb; rw [if_pos (Nat.eq_of_beq_eq_true hb)]
  · rename_i hb; rw [if_neg]; intro h; subst h; simp at hb
theorem ExtJ.cons {m : Jm} {a : Nat} {x : Option Nat} (h : lookJ m a = none) : ExtJ m ((a, x) :: m) := fun b v hv => by
  rw [lookJ_cons]
  by_cases he : a = b
  · subst he; rw [h] at hv; cases hv
  · rw [if_neg he]; exact hv
def RfOk (nro : Nat) (m' : Jm) (k : Nat) : Rf → Prop
  | .f a => a = k ∧ a < nro
  | .j a => lookJ m' a = some (some k)
theorem addJ_ok {nro : Nat} {m m' : Jm} {r : Rf} {k : Nat} (h : addJ nro m r k = some m') : ExtJ m m' ∧ RfOk nro m' k r := by
  cases r with
  | f a =>
    simp only [addJ] at h
    split at h
    · rename_i hb
      simp only [Bool.and_eq_true] at hb
      cases h; exact ⟨ExtJ.refl _, Nat.eq_of_beq_eq_true hb.1, Nat.le_of_ble_eq_true hb.2⟩
    · cases h
  | j a =>
    simp only [addJ] at h
    split at h
    · rename_i hl; cases h; exact ⟨ExtJ.cons hl, by show lookJ _ a = _; rw [lookJ_cons, if_pos rfl]⟩
    · rename_i k' hl
      split at h
      · rename_i hb; cases h; have := Nat.eq_of_beq_eq_true hb; subst this; exact ⟨ExtJ.refl _, hl⟩
      · cases h
    · cases h
/-- m2 has the objects of m under new numbers. -/
structure JC (ro : List (List T)) (m m2 : Mst) (n0 : Nat) (J : Jm) : Prop where
  s : m2.s = m.s
  nk : ∀ a v, lookJ J a = some v → n0 + a < m2.nk
  rk : ro.length ≤ m2.nk
  rof : ∀ k, k < ro.length → look2 ro m2.ob k = look2 ro m.ob k ∧ m2.A k = m.A k
  j : ∀ a k, lookJ J a = some (some k) → m2.A (n0 + a) = m.A k ∧ (∀ own cs, look2 ro m2.ob (n0 + a) = some (.ls own cs) → look2 ro m.ob k = some (.ls own cs)) ∧ ∀ xs, look2 ro m2.ob (n0 + a) = some (.bx xs) → ∃ ys, look2 ro m.ob k = some (.bx ys)
  jn : ∀ a, lookJ J a = some none → (m2.A (n0 + a)).nil = true
theorem JC.id {ro : List (List T)} {m m2 : Mst} {n0 : Nat} {J : Jm} {jm jm' : Jm} {r : Rf} {k : Nat} (h : JC ro m m2 n0 J) (hadd : addJ ro.length jm r k = some jm') (he : ExtJ jm' J) :
    idOf n0 r < m2.nk ∧ m2.A (idOf n0 r) = m.A k ∧ (∀ own cs, look2 ro m2.ob (idOf n0 r) = some (.ls own cs) → look2 ro m.ob k = some (.ls own cs)) ∧ ∀ xs, look2 ro m2.ob (idOf n0 r) = some (.bx xs) → ∃ ys, look2 ro m.ob k = some (.bx ys) := by
  obtain ⟨_, h2⟩ := addJ_ok hadd
  cases r with
  | f a =>
    obtain ⟨rfl, hlt⟩ := h2
    obtain ⟨h3, h4⟩ := h.rof a hlt
    exact ⟨Nat.lt_of_lt_of_le hlt h.rk, h4, fun own cs hl => by rw [← h3]; exact hl, fun xs hl => ⟨xs, by rw [← h3]; exact hl⟩⟩
  | j a =>
    have h3 := he a _ h2
    obtain ⟨h4, h5, h6⟩ := h.j a k h3
    exact ⟨h.nk a _ h3, h4, h5, h6⟩
theorem preAt_ok {xs : List Value} : ∀ {pre : List Nat} {i : Nat}, Str xs i (ivs pre) → preAt xs pre.length i = pre
  | [], i, _ => rfl
  | a :: r, i, h => by
    obtain ⟨h1, h2⟩ := (show Str xs i (iv a :: ivs r) from h).tl
    simp only [List.length_cons, preAt]
    rw [h1, natOf_iv, preAt_ok h2]
theorem ivs_len {l : List Nat} : (ivs l).length = l.length := by simp [ivs]
theorem outS_ok {ro : List (List T)} {n0 : Nat} {J : Jm} {h : SH} {x : E0} {jm jm' : Jm} {v1 xs : List Value} {i : Nat} (ho : outS ro.length h x jm = some (v1, jm')) :
    ExtJ jm jm' ∧ (∀ m m2, JC ro m m2 n0 J → ExtJ jm' J → Str xs i v1 → (inS n0 xs i h).2 = i + v1.length ∧ ∀ u, E0R ro m x u → E0R ro m2 (inS n0 xs i h).1 u) := by
  cases h with
  | v =>
    cases x <;> simp only [outS, reduceCtorEq, Option.some.injEq, Prod.mk.injEq] at ho
    obtain ⟨rfl, rfl⟩ := ho
    refine ⟨ExtJ.refl _, fun m m2 hJ _ hs => ⟨rfl, fun u hu => ?_⟩⟩
    have := hs.tl.1
    simp only [inS]; rw [this]; exact hu
  | w =>
    have : outS ro.length .w x jm = some ([], jm) := by cases x <;> rfl
    rw [this] at ho
    cases ho
    exact ⟨ExtJ.refl _, fun m m2 hJ _ _ => ⟨rfl, fun u hu => trivial⟩⟩
  | z =>
    cases x <;> simp only [outS, reduceCtorEq, Option.some.injEq, Prod.mk.injEq] at ho
    obtain ⟨rfl, rfl⟩ := ho
    exact ⟨ExtJ.refl _, fun m m2 hJ _ _ => ⟨rfl, fun u hu => hu⟩⟩
  | t r e =>
    cases x <;> try (cases r <;> simp [outS] at ho; done)
    · cases r with
      | f a => simp [outS] at ho
      | j a =>
        simp only [outS] at ho
        split at ho
        · rename_i hl hb
          cases ho
          refine ⟨ExtJ.cons hl, fun m m2 hJ he _ => ⟨rfl, fun u hu => ?_⟩⟩
          have h1 := he a none (by rw [lookJ_cons, if_pos rfl])
          have hu : u = nl := hu
          subst hu
          exact ⟨hJ.nk a _ h1, rfl, Nat.le_of_ble_eq_true hb, fun own cs hl => .inl ⟨rfl, hJ.jn a h1⟩⟩
        · cases ho
    · rename_i k e'
      have ho' : (match Nat.beq e e' with | true => (addJ ro.length jm r k).map fun m' => (([] : List Value), m') | false => none) = some (v1, jm') := by cases r <;> exact ho
      split at ho'
      · rename_i hb
        have := Nat.eq_of_beq_eq_true hb; subst this
        simp only [Option.map_eq_some_iff, Prod.mk.injEq] at ho'
        obtain ⟨m', h1, rfl, rfl⟩ := ho'
        refine ⟨(addJ_ok h1).1, fun m m2 hJ he _ => ⟨rfl, fun u hu => ?_⟩⟩
        obtain ⟨g1, g2, g3, g4⟩ := hJ.id h1 he
        obtain ⟨_, k2, k3, k4⟩ := hu
        simp only [inS]
        refine ⟨g1, k2, k3, fun own cs hl => ?_⟩
        rw [g2]; exact k4 own cs (g3 own cs hl)
      · cases ho'
  | s r d e =>
    cases x <;> simp only [outS, reduceCtorEq] at ho
    rename_i k pre off n e'
    split at ho
    · rename_i hb
      simp only [Bool.and_eq_true] at hb
      have e1 := Nat.eq_of_beq_eq_true hb.1; subst e1
      have e2 := Nat.eq_of_beq_eq_true hb.2; subst e2
      simp only [Option.map_eq_some_iff, Prod.mk.injEq] at ho
      obtain ⟨m', h1, rfl, rfl⟩ := ho
      refine ⟨(addJ_ok h1).1, fun m m2 hJ he hs => ⟨by simp [inS, ivs_len]; omega, fun u hu => ?_⟩⟩
      obtain ⟨g1, g2, g3, g4⟩ := hJ.id h1 he
      obtain ⟨s1, s2⟩ := hs.tl
      obtain ⟨s3, s4⟩ := s2.tl
      simp only [inS]
      rw [s1, s3, natOf_iv, natOf_iv, preAt_ok s4]
      obtain ⟨_, k2, k4⟩ := hu
      refine ⟨g1, k2, fun own cs hl => ?_⟩
      rw [g2, hJ.s]; exact k4 own cs (g3 own cs hl)
    · cases ho
  | n r d e =>
    cases x <;> simp only [outS, reduceCtorEq] at ho
    rename_i k pre e'
    split at ho
    · rename_i hb
      simp only [Bool.and_eq_true] at hb
      have e1 := Nat.eq_of_beq_eq_true hb.1; subst e1
      have e2 := Nat.eq_of_beq_eq_true hb.2; subst e2
      simp only [Option.map_eq_some_iff, Prod.mk.injEq] at ho
      obtain ⟨m', h1, rfl, rfl⟩ := ho
      refine ⟨(addJ_ok h1).1, fun m m2 hJ he hs => ⟨by simp [inS, ivs_len], fun u hu => ?_⟩⟩
      obtain ⟨g1, g2, g3, g4⟩ := hJ.id h1 he
      simp only [inS]
      rw [preAt_ok hs]
      obtain ⟨_, k2, k3, k4⟩ := hu
      refine ⟨g1, k2, k3, fun own cs hl => ?_⟩
      rw [g2, hJ.s]; exact k4 own cs (g3 own cs hl)
    · cases ho
  | p r off =>
    cases x <;> simp only [outS, reduceCtorEq] at ho
    rename_i k off'
    split at ho
    · rename_i hb
      have e1 := Nat.eq_of_beq_eq_true hb; subst e1
      simp only [Option.map_eq_some_iff, Prod.mk.injEq] at ho
      obtain ⟨m', h1, rfl, rfl⟩ := ho
      refine ⟨(addJ_ok h1).1, fun m m2 hJ he hs => ⟨rfl, fun u hu => ?_⟩⟩
      obtain ⟨g1, g2, g3, g4⟩ := hJ.id h1 he
      obtain ⟨_, k2, k4⟩ := hu
      simp only [inS]
      refine ⟨g1, k2, fun ys hl => ?_⟩
      obtain ⟨zs, hz⟩ := g4 ys hl
      rw [g2]; exact k4 zs hz
    · cases ho
  | e r d =>
    cases x <;> simp only [outS, reduceCtorEq] at ho
    rename_i k pre off
    split at ho
    · rename_i hb
      have e2 := Nat.eq_of_beq_eq_true hb; subst e2
      simp only [Option.map_eq_some_iff, Prod.mk.injEq] at ho
      obtain ⟨m', h1, rfl, rfl⟩ := ho
      refine ⟨(addJ_ok h1).1, fun m m2 hJ he hs => ⟨by simp [inS, ivs_len]; omega, fun u hu => ?_⟩⟩
      obtain ⟨g1, g2, g3, g4⟩ := hJ.id h1 he
      obtain ⟨s1, s2⟩ := hs.tl
      simp only [inS]
      rw [s1, natOf_iv, preAt_ok s2]
      obtain ⟨_, k2, k4⟩ := hu
      refine ⟨g1, k2, fun own cs hl => ?_⟩
      rw [g2, hJ.s]; exact k4 own cs (g3 own cs hl)
    · cases ho
theorem outSs_ext {ro : List (List T)} : ∀ {hs : List SH} {xs : List E0} {jm jm' : Jm} {v : List Value}, outSs ro.length hs xs jm = some (v, jm') → ExtJ jm jm'
  | [], [], jm, jm', v, h => by simp only [outSs, Option.some.injEq, Prod.mk.injEq] at h; rw [h.2]; exact ExtJ.refl _
  | h :: r, x :: xs, jm, jm', v, ho => by
    simp only [outSs, Option.bind_eq_some_iff, Option.map_eq_some_iff] at ho
    obtain ⟨p, h1, q, h2, h3⟩ := ho
    cases h3
    exact (outS_ok (ro := ro) (n0 := 0) (J := []) (xs := []) (i := 0) (v1 := p.1) (jm' := p.2) h1).1.trans (outSs_ext (v := q.1) h2)
  | [], x :: xs, jm, jm', v, h => by simp [outSs] at h
  | h :: r, [], jm, jm', v, ho => by simp [outSs] at ho
theorem outSs_ok {ro : List (List T)} {m m2 : Mst} {n0 : Nat} {J : Jm} (hJ : JC ro m m2 n0 J) : ∀ {hs : List SH} {xs : List E0} {jm jm' : Jm} {v1 vs : List Value} {i : Nat}, outSs ro.length hs xs jm = some (v1, jm') → ExtJ jm' J → Str vs i v1 →
    ExtJ jm J ∧ (inSs n0 vs i hs).2 = i + v1.length ∧ (inSs n0 vs i hs).1.length = xs.length ∧ ∀ us, AllE (E0R ro m) xs us → AllE (E0R ro m2) (inSs n0 vs i hs).1 us
  | [], [], jm, jm', v1, vs, i, h, he, hs => by
    simp only [outSs, Option.some.injEq, Prod.mk.injEq] at h
    obtain ⟨rfl, rfl⟩ := h
    exact ⟨he, rfl, rfl, fun us hu => (by cases us with | nil => trivial | cons _ _ => exact hu.elim)⟩
  | h :: r, x :: xs, jm, jm', v1, vs, i, ho, he, hs => by
    simp only [outSs, Option.bind_eq_some_iff, Option.map_eq_some_iff] at ho
    obtain ⟨p, h1, q, h2, h3⟩ := ho
    cases h3
    have k1 := outS_ok (n0 := n0) (J := J) (xs := vs) (i := i) (v1 := p.1) (jm' := p.2) h1
    obtain ⟨g1, g2, g3, g4⟩ := outSs_ok hJ (v1 := q.1) (jm' := q.2) (vs := vs) (i := i + p.1.length) h2 he hs.app.2
    obtain ⟨k2, k3⟩ := k1.2 m m2 hJ g1 hs.app.1
    simp only [inSs]
    rw [k2]
    refine ⟨k1.1.trans g1, by rw [g2, List.length_append]; omega, by simp [g3], fun us hu => ?_⟩
    cases us with
    | nil => exact hu.elim
    | cons u us => exact ⟨k3 u hu.1, g4 us hu.2⟩
  | [], x :: xs, jm, jm', v1, vs, i, h, _, _ => by simp [outSs] at h
  | h :: r, [], jm, jm', v1, vs, i, ho, _, _ => by simp [outSs] at ho
theorem inS_len {ro : List (List T)} {n0 : Nat} {h : SH} {x : E0} {jm jm' : Jm} {v xs : List Value} {i : Nat} (ho : outS ro.length h x jm = some (v, jm')) : (inS n0 xs i h).2 = i + v.length := by
  cases h with
  | v =>
    cases x <;> simp only [outS, reduceCtorEq, Option.some.injEq, Prod.mk.injEq] at ho
    obtain ⟨rfl, rfl⟩ := ho
    rfl
  | w =>
    have : outS ro.length .w x jm = some ([], jm) := by cases x <;> rfl
    rw [this] at ho
    cases ho; rfl
  | z =>
    cases x <;> simp only [outS, reduceCtorEq, Option.some.injEq, Prod.mk.injEq] at ho
    obtain ⟨rfl, rfl⟩ := ho
    rfl
  | t r e =>
    cases x <;> try (cases r <;> simp [outS] at ho; done)
    · cases r with
      | f a => simp [outS] at ho
      | j a =>
        simp only [outS] at ho
        split at ho
        · cases ho; rfl
        · cases ho
    · rename_i k e'
      have ho' : (match Nat.beq e e' with | true => (addJ ro.length jm r k).map fun m' => (([] : List Value), m') | false => none) = some (v, jm') := by cases r <;> exact ho
      split at ho'
      · simp only [Option.map_eq_some_iff, Prod.mk.injEq] at ho'
        obtain ⟨m', h1, rfl, rfl⟩ := ho'
        rfl
      · cases ho'
  | s r d e =>
    cases x <;> simp only [outS, reduceCtorEq] at ho
    split at ho
    · rename_i hb
      simp only [Bool.and_eq_true] at hb
      have e2 := Nat.eq_of_beq_eq_true hb.2; subst e2
      simp only [Option.map_eq_some_iff, Prod.mk.injEq] at ho
      obtain ⟨m', h1, rfl, rfl⟩ := ho
      simp [inS, ivs_len]; omega
    · cases ho
  | n r d e =>
    cases x <;> simp only [outS, reduceCtorEq] at ho
    split at ho
    · rename_i hb
      simp only [Bool.and_eq_true] at hb
      have e2 := Nat.eq_of_beq_eq_true hb.2; subst e2
      simp only [Option.map_eq_some_iff, Prod.mk.injEq] at ho
      obtain ⟨m', h1, rfl, rfl⟩ := ho
      simp [inS, ivs_len]
    · cases ho
  | p r off =>
    cases x <;> simp only [outS, reduceCtorEq] at ho
    split at ho
    · simp only [Option.map_eq_some_iff, Prod.mk.injEq] at ho
      obtain ⟨m', h1, rfl, rfl⟩ := ho
      rfl
    · cases ho
  | e r d =>
    cases x <;> simp only [outS, reduceCtorEq] at ho
    split at ho
    · rename_i hb
      have e2 := Nat.eq_of_beq_eq_true hb; subst e2
      simp only [Option.map_eq_some_iff, Prod.mk.injEq] at ho
      obtain ⟨m', h1, rfl, rfl⟩ := ho
      simp [inS, ivs_len]; omega
    · cases ho
theorem inSs_len {ro : List (List T)} {n0 : Nat} {vs : List Value} : ∀ {hs : List SH} {xs : List E0} {jm jm' : Jm} {v : List Value} {i : Nat}, outSs ro.length hs xs jm = some (v, jm') → (inSs n0 vs i hs).2 = i + v.length
  | [], [], jm, jm', v, i, h => by simp only [outSs, Option.some.injEq, Prod.mk.injEq] at h; rw [← h.1]; rfl
  | h :: r, x :: xs, jm, jm', v, i, ho => by
    simp only [outSs, Option.bind_eq_some_iff, Option.map_eq_some_iff] at ho
    obtain ⟨p, h1, q, h2, h3⟩ := ho
    cases h3
    simp only [inSs]
    rw [inS_len (v := p.1) (jm' := p.2) h1, inSs_len (v := q.1) (jm' := q.2) h2, List.length_append]; omega
  | [], x :: xs, jm, jm', v, i, h => by simp [outSs] at h
  | h :: r, [], jm, jm', v, i, ho => by simp [outSs] at ho
def ObF (ro : List (List T)) (ob : Obs) (n0 : Nat) (J : Jm) (a : Nat) (o : Ob2) : Prop :=
  (∃ c, o = .ls true c ∧ ((lookJ J a = some none ∧ c = []) ∨ ∃ k, lookJ J a = some (some k) ∧ lookO ob k = some (.ls true c))) ∨
  (∃ k xs ys, o = .bx ys ∧ lookJ J a = some (some k) ∧ lookO ob k = some (.bx xs) ∧ ∀ m m2, JC ro m m2 n0 J → ∀ us, AllE (E0R ro m) xs us → AllE (E0R ro m2) ys us)
theorem outO_ok {ro : List (List T)} {ob : Obs} {n0 : Nat} {J : Jm} {vs : List Value} {cs : List (List T)} : ∀ {os : List JO} {a : Nat} {jm : Jm} {v : List Value} {cl : List (List T)} {i j : Nat}, outO ro.length ob os a jm = some (v, cl, J) → Str vs i v → StrC cs j cl →
    ExtJ jm J ∧ ∀ b o, lookO (inO n0 vs cs os a i j) b = some o → ∃ a', b = n0 + a' ∧ a ≤ a' ∧ a' < a + os.length ∧ ObF ro ob n0 J a' o
  | [], a, jm, v, cl, i, j, h, _, _ => by
    simp only [outO, Option.some.injEq, Prod.mk.injEq] at h
    obtain ⟨_, _, rfl⟩ := h
    exact ⟨ExtJ.refl _, fun b o hb => by simp [inO, lookO] at hb⟩
  | .ls :: r, a, jm, v, cl, i, j, h, hv, hc => by
    simp only [outO] at h
    split at h
    · rename_i hl
      simp only [Option.map_eq_some_iff] at h
      obtain ⟨q, h1, h2⟩ := h
      cases h2
      obtain ⟨c1, c2⟩ := hc.tl
      obtain ⟨g1, g2⟩ := outO_ok (v := q.1) (cl := q.2.1) (i := i) (j := j + 1) h1 hv c2
      refine ⟨g1, fun b o hb => ?_⟩
      simp only [inO, lookO_cons] at hb
      split at hb
      · rename_i he
        cases hb
        exact ⟨a, he.symm, Nat.le_refl _, by simp, .inl ⟨_, rfl, .inl ⟨g1 a _ hl, c1⟩⟩⟩
      · obtain ⟨a', e1, e2, e3, e4⟩ := g2 b o hb
        exact ⟨a', e1, by omega, by simp; omega, e4⟩
    · rename_i k hl
      split at h
      · rename_i c hk
        simp only [Option.map_eq_some_iff] at h
        obtain ⟨q, h1, h2⟩ := h
        cases h2
        obtain ⟨c1, c2⟩ := hc.tl
        obtain ⟨g1, g2⟩ := outO_ok (v := q.1) (cl := q.2.1) (i := i) (j := j + 1) h1 hv c2
        refine ⟨g1, fun b o hb => ?_⟩
        simp only [inO, lookO_cons] at hb
        split at hb
        · rename_i he
          cases hb
          exact ⟨a, he.symm, Nat.le_refl _, by simp, .inl ⟨_, rfl, .inr ⟨k, g1 a _ hl, by rw [c1]; exact hk⟩⟩⟩
        · obtain ⟨a', e1, e2, e3, e4⟩ := g2 b o hb
          exact ⟨a', e1, by omega, by simp; omega, e4⟩
      · cases h
    · cases h
  | .bx hs :: r, a, jm, v, cl, i, j, h, hv, hc => by
    simp only [outO] at h
    split at h
    · rename_i k hl
      split at h
      · rename_i xs hk
        simp only [Option.bind_eq_some_iff, Option.map_eq_some_iff] at h
        obtain ⟨p, h0, q, h1, h2⟩ := h
        cases h2
        have x1 := outSs_ext (v := p.1) (jm' := p.2) h0
        have hlen : (inSs n0 vs i hs).2 = i + p.1.length := inSs_len (v := p.1) (jm' := p.2) h0
        obtain ⟨g1, g2⟩ := outO_ok (v := q.1) (cl := q.2.1) (i := i + p.1.length) (j := j) h1 hv.app.2 hc
        refine ⟨x1.trans g1, fun b o hb => ?_⟩
        simp only [inO, lookO_cons, hlen] at hb
        split at hb
        · rename_i he
          cases hb
          exact ⟨a, he.symm, Nat.le_refl _, by simp, .inr ⟨k, xs, _, rfl, (x1.trans g1) a _ hl, hk, fun m m2 hJ us hu => (outSs_ok hJ (v1 := p.1) (jm' := p.2) h0 g1 hv.app.1).2.2.2 us hu⟩⟩
        · obtain ⟨a', e1, e2, e3, e4⟩ := g2 b o hb
          exact ⟨a', e1, by omega, by simp; omega, e4⟩
      · cases h
    · cases h
theorem inO_keys {n0 : Nat} {vs : List Value} {cs : List (List T)} : ∀ {os : List JO} {a i j : Nat}, (inO n0 vs cs os a i j).map (·.1) = (List.range' a os.length).map (n0 + ·)
  | [], a, i, j => by simp [inO]
  | .ls :: r, a, i, j => by simp [inO, inO_keys, List.range'_succ]
  | .bx hs :: r, a, i, j => by simp [inO, inO_keys, List.range'_succ]
theorem injJ_ok : ∀ {J : Jm}, injJ J = true → ∀ {a b k : Nat}, a ≠ b → lookJ J a = some (some k) → lookJ J b ≠ some (some k)
  | [], _, a, b, k, _, h => by simp [lookJ] at h
  | (x, none) :: r, hi, a, b, k, hne, h => by
    simp only [injJ] at hi
    rw [lookJ_cons] at h ⊢
    split at h
    · cases h
    · split
      · intro hh; cases hh
      · exact injJ_ok hi hne h
  | (x, some y) :: r, hi, a, b, k, hne, h => by
    simp only [injJ, Bool.and_eq_true, Bool.not_eq_true'] at hi
    have hmem : ∀ {c z : Nat}, lookJ r c = some (some z) → z ≠ y := fun {c z} hc he => by
      subst he
      have : (c, some z) ∈ r := lookJ_mem hc
      have := List.any_eq_false.1 hi.1 _ this
      simp at this
    rw [lookJ_cons] at h ⊢
    split at h
    · rename_i hxa
      cases h
      rw [if_neg (fun he => hne (hxa.symm.trans he))]
      intro hh; exact hmem hh rfl
    · split
      · intro hh; cases hh; exact hmem h rfl
      · exact injJ_ok hi.2 hne h
where
  lookJ_mem : ∀ {J : Jm} {c : Nat} {v : Option Nat}, lookJ J c = some v → (c, v) ∈ J
    | [], c, v, h => by simp [lookJ] at h
    | (x, y) :: r, c, v, h => by
      rw [lookJ_cons] at h
      split at h
      · rename_i he; cases h; subst he; simp
      · exact List.mem_cons_of_mem _ (lookJ_mem h)
theorem lookJ_lt {J : Jm} {n : Nat} (h : (J.all fun x => Nat.blt x.1 n) = true) {a : Nat} {v : Option Nat} (hl : lookJ J a = some v) : a < n :=
  Nat.le_of_ble_eq_true (List.all_eq_true.1 h _ (injJ_ok.lookJ_mem hl))
theorem lkE_in {R : E0 → Value → Prop} (hw : ∀ u, R .w u) : ∀ {L : List Nat} {xs : List E0} {t : Nat}, xs.length = L.length → ∀ {us : List Value} {env1 : Env} {i : Nat} {ws : List Value}, AllE R xs us → (∀ n u, us[n]? = some u → nx ws (i + n) = u) → TagR R env1 (lkE (inEnv L xs) t) (lk (inj L i ws) t)
  | [], xs, t, hl, us, env1, i, ws, _, _ => by
    have : xs = [] := List.eq_nil_of_length_eq_zero hl
    subst this
    have : lkE (inEnv [] []) t = (none, .o .w) := rfl
    rw [this]
    exact hw _
  | a :: L, [], t, hl, _, _, _, _, _, _ => by simp at hl
  | a :: L, x :: xs, t, hl, us, env1, i, ws, ha, hn => by
    cases us with
    | nil => exact ha.elim
    | cons u us =>
      simp only [inEnv, lkE, inj, lk]
      cases hb : Nat.beq a t with
      | true =>
        simp only
        have := hn 0 u rfl
        rw [Nat.add_zero] at this
        rw [this]
        exact ha.1
      | false => exact lkE_in hw (by simpa using hl) ha.2 fun n v hv => by rw [show i + 1 + n = i + (n + 1) by omega]; exact hn (n + 1) v (by simpa using hv)
theorem e0Of_ok {ro : List (List T)} {m : Mst} {e : EV} {u : Value} (h : EVR (E0R ro m) e u) : E0R ro m (e0Of e) u := by
  cases e with
  | o x => exact h
  | g xs => trivial
  | u ys => trivial
theorem live_ok {ro : List (List T)} {m : Mst} {env : Env2} {env1 : Env} (hE : EnvR ro m env env1) : ∀ (L : List Nat), AllE (E0R ro m) (liveE L env) (proj L env1)
  | [] => trivial
  | t :: L => ⟨e0Of_ok (tk_ok (av := []) (fun g w h => by simp [mem2] at h) (hE t)), live_ok hE L⟩
def PinOk (ro : List (List T)) (m : Mst) (pins : List E0) (pv : List Value) : Prop := AllE (E0R ro m) pins pv ∧ pins.all flatE = true
theorem flat_kill {kl : List Nat} {x : E0} (h : flatE x = true) : killE kl x = x := by
  cases x <;> try rfl
  · rename_i k pre off; cases pre <;> first | rfl | simp [flatE] at h
  · rename_i k pre off n e; cases pre <;> first | rfl | simp [flatE] at h
  · rename_i k pre e; cases pre <;> first | rfl | simp [flatE] at h
theorem PinOk.next {ro : List (List T)} {m m' : Mst} {aff kl : List Nat} {pins : List E0} {pv : List Value} (h : PinOk ro m pins pv) (hn : Nx2 ro m aff kl m') : PinOk ro m' pins pv := by
  refine ⟨?_, h.2⟩
  have := AllE_map (f := killE kl) (fun x u hx => hn.kp.e0 hx) h.1
  have e : pins.map (killE kl) = pins := by
    have h2 := h.2
    clear h this
    induction pins with
    | nil => rfl
    | cons x r ih => simp only [List.all_cons, Bool.and_eq_true] at h2; simp only [List.map_cons, flat_kill h2.1, ih h2.2]
  rwa [e] at this
theorem inSs_app {n0 : Nat} {vs : List Value} : ∀ {a b : List SH} {i : Nat}, (inSs n0 vs i (a ++ b)).1 = (inSs n0 vs i a).1 ++ (inSs n0 vs (inSs n0 vs i a).2 b).1
  | [], b, i => rfl
  | h :: r, b, i => by simp only [List.cons_append, inSs, inSs_app]
theorem inSs_cnt {n0 : Nat} {vs : List Value} : ∀ {hs : List SH} {i : Nat}, (inSs n0 vs i hs).1.length = hs.length
  | [], i => rfl
  | h :: r, i => by simp [inSs, inSs_cnt]
theorem inSs_flat {n0 : Nat} {vs : List Value} : ∀ {hs : List SH} {i : Nat}, hs.all flatS = true → (inSs n0 vs i hs).1.all flatE = true
  | [], i, _ => rfl
  | h :: r, i, hf => by
    simp only [List.all_cons, Bool.and_eq_true] at hf
    simp only [inSs, List.all_cons, Bool.and_eq_true]
    exact ⟨by cases h <;> first | rfl | simp [flatS] at hf, inSs_flat hf.2⟩
theorem cast_ok {B : Bas} {ro : List (List T)} {m : Mst} (hm : Mem B ro m) {h : SH} {x : E0} {u : Value} (hx : E0R ro m x u) : E0R ro m (castE ro m.ob h x) u := by
  unfold castE
  split
  · rename_i r e k e'
    split
    · rename_i cs hc
      obtain ⟨hlt, hone, hpos, hr⟩ := hx
      refine ⟨hlt, hone, fun own cs2 hl => ?_⟩
      simp only [contE, hl] at hc
      split at hc
      · rename_i he
        have he := Nat.eq_of_beq_eq_true he
        subst he
        simp only [Option.some.injEq] at hc; subst hc
        rcases hr own cs2 hl with ⟨h1, h2⟩ | ⟨n, h1, h2, h3⟩
        · refine .inl ⟨h1, ?_⟩
          have hcs : cs2 = [] := by
            rcases hm.obr k _ hl with ⟨_, h3, _⟩ | ⟨h3, _⟩
            · exact h3
            · rw [h2] at h3; cases h3
          subst hcs
          exact cnt_eq (n := 0) hpos (by simp)
        · rw [cnt_eq hpos h2]
          exact .inr ⟨cs2, _, _, rfl, by rw [h2]; omega, h1, rfl, by rw [h3]; rfl⟩
      · cases hc
    · exact hx
  · exact hx
theorem casts_ok {B : Bas} {ro : List (List T)} {m : Mst} (hm : Mem B ro m) : ∀ {hs : List SH} {xs : List E0} {us : List Value}, AllE (E0R ro m) xs us → AllE (E0R ro m) (castEs ro m.ob hs xs) us
  | [], xs, us, h => by cases xs <;> exact h
  | h :: r, [], us, ha => ha
  | h :: r, x :: xs, [], ha => ha.elim
  | h :: r, x :: xs, u :: us, ha => ⟨cast_ok hm ha.1, casts_ok hm ha.2⟩
theorem meet_sound {B : Bas} {ro : List (List T)} {m : Mst} {env : Env2} {env1 : Env} {J : JS} {L : List Nat} {n0 : Nat} {j : J2} {pins : List E0} {pv : List Value} (hm : Mem B ro m) (hE : EnvR ro m env env1) (hpv : PinOk ro m pins pv) (hn : ro.length ≤ n0) (h : meet ro J L ⟨m.ob, m.nk, env, pins⟩ j) :
    ∃ xs cs, j xs cs ∧ ∃ A', Mem B ro ⟨m.s, (inJ J L n0 xs cs).ob, (inJ J L n0 xs cs).nk, A'⟩ ∧ EnvR ro ⟨m.s, (inJ J L n0 xs cs).ob, (inJ J L n0 xs cs).nk, A'⟩ (inJ J L n0 xs cs).env (inj L 0 (proj L env1)) ∧ PinOk ro ⟨m.s, (inJ J L n0 xs cs).ob, (inJ J L n0 xs cs).nk, A'⟩ (inJ J L n0 xs cs).pins pv := by
  unfold meet at h
  split at h
  · rename_i hfl
    simp only [Bool.and_eq_true] at hfl
    split at h
    · rename_i xs cs ho
      refine ⟨xs, cs, h, ?_⟩
      simp only [outJ, Option.bind_eq_some_iff] at ho
      obtain ⟨⟨v1, jm1⟩, h1, ⟨v2, cl, jm⟩, h2, ho⟩ := ho
      split at ho
      · rename_i hc
        simp only [Option.some.injEq, Prod.mk.injEq] at ho
        obtain ⟨rfl, rfl⟩ := ho
        simp only [Bool.and_eq_true] at hc
        have s1 : Str (v1 ++ v2) 0 (v1 ++ v2) := fun t x hx => by simp [nx, List.getD_eq_getElem?_getD, hx]
        have s2 : StrC cl 0 cl := fun t x hx => by simp [nxc, List.getD_eq_getElem?_getD, hx]
        have hlen : (inSs n0 (v1 ++ v2) 0 (J.ts ++ J.ps)).2 = v1.length := by have := inSs_len (n0 := n0) (vs := v1 ++ v2) (i := 0) h1; rw [this]; omega
        obtain ⟨g1, g2⟩ := outO_ok (n0 := n0) (vs := v1 ++ v2) (cs := cl) (i := v1.length) (j := 0) h2 (by have := s1.app.2; rwa [Nat.zero_add] at this) s2
        have hA : ∃ A' : Nat → Asg, (∀ k, k < n0 → A' k = m.A k) ∧ (∀ a k, lookJ jm a = some (some k) → A' (n0 + a) = m.A k) ∧ (∀ a, lookJ jm a = some none → A' (n0 + a) = ⟨true, 0, 0, []⟩) := by
          refine ⟨fun k => if k < n0 then m.A k else match lookJ jm (k - n0) with
            | some (some k') => m.A k'
            | _ => ⟨true, 0, 0, []⟩, fun k hk => by simp [hk], fun a k hk => ?_, fun a ha => ?_⟩
          · simp only [show ¬ n0 + a < n0 by omega, if_false, show n0 + a - n0 = a by omega, hk]
          · simp only [show ¬ n0 + a < n0 by omega, if_false, show n0 + a - n0 = a by omega, ha]
        obtain ⟨A', a1, a2, a3⟩ := hA
        have hob : (inJ J L n0 (v1 ++ v2) cl).ob = inO n0 (v1 ++ v2) cl J.os 0 v1.length 0 := by simp only [inJ, hlen]
        have hnk : (inJ J L n0 (v1 ++ v2) cl).nk = n0 + J.os.length := rfl
        have henv : (inJ J L n0 (v1 ++ v2) cl).env = inEnv L ((inSs n0 (v1 ++ v2) 0 (J.ts ++ J.ps)).1.take L.length) := rfl
        have hpin : (inJ J L n0 (v1 ++ v2) cl).pins = (inSs n0 (v1 ++ v2) 0 (J.ts ++ J.ps)).1.drop L.length := rfl
        refine ⟨A', ?_⟩
        rw [hob, hnk, henv, hpin]
        have hkok : KOk ro (inO n0 (v1 ++ v2) cl J.os 0 v1.length 0) (n0 + J.os.length) := by
          refine ⟨?_, fun x hx => ?_, by omega⟩
          · rw [inO_keys]
            rw [List.map_add_range']; exact List.nodup_range'
          · have : x.1 ∈ (inO n0 (v1 ++ v2) cl J.os 0 v1.length 0).map (·.1) := List.mem_map.2 ⟨x, hx, rfl⟩
            rw [inO_keys] at this
            obtain ⟨y, hy, he⟩ := List.mem_map.1 this
            rw [List.mem_range'_1] at hy
            omega
        have look : ∀ k o, look2 ro (inO n0 (v1 ++ v2) cl J.os 0 v1.length 0) k = some o → (k < ro.length ∧ look2 ro m.ob k = some o) ∨ ∃ a, k = n0 + a ∧ ObF ro m.ob n0 jm a o := by
          intro k o hk
          unfold look2 at hk
          split at hk
          · rename_i o' hl
            cases hk
            obtain ⟨a', e1, _, _, e4⟩ := g2 k o hl
            exact .inr ⟨a', e1, e4⟩
          · have := (rget_lt hk).1
            exact .inl ⟨this, by rw [look2_ro hm.kok this]; exact hk⟩
        have hJC : JC ro m ⟨m.s, inO n0 (v1 ++ v2) cl J.os 0 v1.length 0, n0 + J.os.length, A'⟩ n0 jm := by
          refine ⟨rfl, fun a v hv => ?_, by simp only; omega, fun k hk => ⟨by rw [look2_ro hkok hk, look2_ro hm.kok hk], a1 k (by omega)⟩, fun a k hk => ⟨a2 a k hk, fun own cs hl => ?_, fun xs hl => ?_⟩, fun a ha => by simp only [a3 a ha]⟩
          · have := lookJ_lt hc.2 hv; simp only; omega
          · rcases look _ _ hl with ⟨hlt, _⟩ | ⟨a', he, hf⟩
            · omega
            · have : a' = a := by omega
              subst this
              rcases hf with ⟨c, hco, hf⟩ | ⟨_, _, _, hco, _⟩
              · cases hco
                rcases hf with ⟨hf, _⟩ | ⟨k', hf, hk'⟩
                · rw [hk] at hf; cases hf
                · rw [hk] at hf; cases hf; exact look2_own hk'
              · cases hco
          · rcases look _ _ hl with ⟨hlt, _⟩ | ⟨a', he, hf⟩
            · omega
            · have : a' = a := by omega
              subst this
              rcases hf with ⟨c, hco, hf⟩ | ⟨k', xs', ys, hco, hf, hk', _⟩
              · cases hco
              · rw [hk] at hf; cases hf; exact ⟨xs', look2_own hk'⟩
        have rep : ∀ k o, look2 ro (inO n0 (v1 ++ v2) cl J.os 0 v1.length 0) k = some o → (A' k).F = [] ∨ ∃ k0 o0, look2 ro m.ob k0 = some o0 ∧ A' k = m.A k0 ∧ isOwn o0 = isOwn o ∧ ((k < ro.length ∧ k0 = k) ∨ ∃ a, k = n0 + a ∧ lookJ jm a = some (some k0)) := by
          intro k o hk
          rcases look k o hk with ⟨hlt, hl⟩ | ⟨a, rfl, hf⟩
          · exact .inr ⟨k, o, hl, a1 k (by omega), rfl, .inl ⟨hlt, rfl⟩⟩
          · rcases hf with ⟨c, rfl, ⟨hf, _⟩ | ⟨k', hf, hk'⟩⟩ | ⟨k', xs', ys, rfl, hf, hk', _⟩
            · exact .inl (by rw [a3 a hf])
            · exact .inr ⟨k', _, look2_own hk', a2 a k' hf, rfl, .inr ⟨a, rfl, hf⟩⟩
            · exact .inr ⟨k', _, look2_own hk', a2 a k' hf, rfl, .inr ⟨a, rfl, hf⟩⟩
        refine ⟨⟨hkok, fun k o hk => ?_, fun k o hk how => ?_, fun k k' o o' hne hk hk' how x hx hx' => ?_, hm.frn, hm.fr⟩, ?_⟩
        · rcases look k o hk with ⟨hlt, hl⟩ | ⟨a, rfl, hf⟩
          · have hob := hm.obr k o hl
            obtain ⟨_, cs0, rfl⟩ := rget_lt (by rw [look2_ro hm.kok hlt] at hl; exact hl)
            simp only [ObR, a1 k (show k < n0 by omega)]
            exact hob
          · rcases hf with ⟨c, rfl, ⟨hf, hcn⟩ | ⟨k', hf, hk'⟩⟩ | ⟨k', xs', ys, rfl, hf, hk', hall⟩
            · simp only [ObR, a3 a hf]
              exact .inl ⟨trivial, hcn, trivial⟩
            · have hob := hm.obr k' _ (look2_own hk')
              simp only [ObR, a2 a k' hf]
              exact hob
            · obtain ⟨hF, us, hg, ha⟩ := hm.obr k' _ (look2_own hk')
              simp only [ObR, a2 a k' hf]
              exact ⟨hF, us, hg, hall m _ hJC us ha⟩
        · rcases rep k o hk with h0 | ⟨k0, o0, h3, h4, h5, _⟩
          · rw [h0]; exact ⟨List.nodup_nil, fun h hh => by simp at hh⟩
          · simp only [h4]; exact hm.own k0 o0 h3 (by rw [h5]; exact how)
        · rcases rep k o hk with h0 | ⟨k0, o0, h3, h4, h5, h6⟩
          · simp only [h0] at hx; simp at hx
          · rcases rep k' o' hk' with h0 | ⟨k1, o1, g3, g4, g5, g6⟩
            · simp only [h0] at hx'; simp at hx'
            · simp only [h4] at hx
              simp only [g4] at hx'
              refine hm.dis k0 k1 o0 o1 ?_ h3 g3 (by rw [h5]; exact how) x hx hx'
              rcases h6 with ⟨q1, rfl⟩ | ⟨a, rfl, q2⟩
              ·
                rw [look2_ro hkok q1] at hk
                obtain ⟨_, cs0, rfl⟩ := rget_lt hk
                cases how
              · rcases g6 with ⟨r1, rfl⟩ | ⟨b, rfl, r2⟩
                · intro he
                  subst he
                  have := look2_isOwn h3 (by rw [h5]; exact how)
                  have := (hm.kok.lt _ (lookO_mem this)).1
                  simp at this; omega
                · intro he
                  subst he
                  exact injJ_ok hc.1 (fun he => hne (by rw [he])) q2 r2
        · obtain ⟨k1, k2, k3, k4⟩ := outSs_ok (vs := v1 ++ v2) (i := 0) hJC h1 g1 s1.app.1
          have hes := casts_ok (hs := J.ts) hm (live_ok hE L)
          have hall := k4 _ (AllE_app hes hpv.1)
          have hpl : (proj L env1).length = L.length := by simp [proj]
          have h1' := AllE_take L.length hall
          have h2' := AllE_drop L.length hall
          rw [← hpl, List.take_left, hpl] at h1'
          rw [← hpl, List.drop_left, hpl] at h2'
          refine ⟨fun t => lkE_in (fun u => trivial) (by rw [← AllE_len h1']; exact hpl) h1' fun n u hu => ?_, h2', ?_⟩
          · rw [Nat.zero_add]
            simp [nx, List.getD_eq_getElem?_getD, hu]
          · rw [inSs_app, ← Nat.eq_of_beq_eq_true hfl.2, ← inSs_cnt (n0 := n0) (vs := v1 ++ v2) (i := 0) (hs := J.ts), List.drop_left]
            exact inSs_flat hfl.1
      · cases ho
    · exact h.elim
  · exact h.elim
end Go.Proofs.Ytmikdglafmfnfaa.Eng
