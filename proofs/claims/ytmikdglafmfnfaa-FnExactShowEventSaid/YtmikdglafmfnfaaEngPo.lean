/- The pure engine's truth: operations one behind the other. -/
import Derived.Test.YtmikdglafmfnfaaEngPn
namespace Go.Proofs.Ytmikdglafmfnfaa.Eng
open Go Go.RowKit
set_option linter.unusedVariables false
set_option linter.unusedSimpArgs false
set_option linter.constructorNameAsVariable false
/-- What goes on from m to m'. -/
structure Nx2 (ro : List (List T)) (m : Mst) (aff kl : List Nat) (m' : Mst) : Prop where
  kp : Kp ro m m' kl
  afr : ∀ k o, look2 ro m.ob k = some o → aff.any (Nat.beq k) = false → ∀ h ∈ (m.A k).F, m'.s.get h = m.s.get h
  n : m.s.n ≤ m'.s.n
  agr : ∀ k, k < ro.length → m'.A k = m.A k
theorem Nx2.refl {ro : List (List T)} {m : Mst} {aff kl : List Nat} : Nx2 ro m aff kl m := ⟨Kp.refl, fun _ _ _ _ _ _ => rfl, Nat.le_refl _, fun _ _ => rfl⟩
theorem Out.nxt {C : Ctx} {B : Bas} {ro : List (List T)} {m m' : Mst} {aff kl : List Nat} {st : Stp} {v : Value} {e : EV} (h : Out C B ro m aff kl st v e m') : Nx2 ro m aff kl m' := ⟨h.kp, h.afr, h.n, h.agr⟩
theorem lkE_put {dst : Option Tmp} {tag : Option (Nat × Bool)} {e : EV} {env : Env2} {t : Nat} : lkE (putV dst tag e env) t = if dst = some t then (tag, e) else lkE env t := by
  cases dst with
  | none => simp [putV]
  | some d =>
    simp only [putV, lkE]
    split
    · rename_i hb; rw [if_pos (by rw [Nat.eq_of_beq_eq_true hb])]
    · rename_i hb; rw [if_neg]; intro h; cases h; simp at hb
theorem lk_put {dst : Option Tmp} {v : Value} {env : Env} {t : Nat} : lk (putE dst v env) t = if dst = some t then v else lk env t := by
  cases dst with
  | none => simp [putE]
  | some d =>
    simp only [putE, lk]
    split
    · rename_i hb; rw [if_pos (by rw [Nat.eq_of_beq_eq_true hb])]
    · rename_i hb; rw [if_neg]; intro h; cases h; simp at hb
theorem noTag_ok : ∀ {env : Env2} {d t g : Nat} {w : Bool} {e : EV}, noTag env d = true → lkE env t = (some (g, w), e) → g ≠ d
  | [], d, t, g, w, e, _, h => by simp [lkE] at h
  | (a, none, x) :: r, d, t, g, w, e, hn, h => by
    simp only [lkE] at h
    split at h
    · cases h
    · exact noTag_ok (by simpa [noTag] using hn) h
  | (a, some (g', w'), x) :: r, d, t, g, w, e, hn, h => by
    simp only [noTag, Bool.and_eq_true, Bool.not_eq_true'] at hn
    simp only [lkE] at h
    split at h
    · cases h
      intro he; subst he; simp at hn
    · exact noTag_ok hn.2 h
theorem noTag_kill {kl : List Nat} {d : Nat} : ∀ {env : Env2}, noTag env d = true → noTag (killEnv kl env) d = true := by
  intro env h
  cases kl with
  | nil => exact h
  | cons a l =>
    simp only [killEnv]
    induction env with
    | nil => rfl
    | cons x r ih =>
      obtain ⟨t, tg, e⟩ := x
      cases tg with
      | none => simp only [List.map_cons, noTag] at *; exact ih h
      | some gw => obtain ⟨g, w⟩ := gw; simp only [List.map_cons, noTag, Bool.and_eq_true] at *; exact ⟨h.1, ih h.2⟩
theorem env_put {ro : List (List T)} {m : Mst} {env : Env2} {env1 : Env} {dst : Option Tmp} {g : Option (Nat × Bool × Value)} {tag : Option (Nat × Bool)} {e : EV} {v : Value} (hE : EnvR ro m env env1) (hn : ∀ d, dst = some d → noTag env d = true) (ht : ∀ d, dst = some d → ∀ g w, tag = some (g, w) → g ≠ d) (hv : TagR (E0R ro m) env1 (tag, e) v) : EnvR ro m (putV dst tag e env) (putE dst v env1) := by
  intro t
  rw [lkE_put, lk_put]
  have hlk : ∀ {g : Nat}, (∀ d, dst = some d → g ≠ d) → lk (putE dst v env1) g = lk env1 g := fun {g} hg => by
    rw [lk_put, if_neg]
    intro he; exact hg g he rfl
  by_cases hd : dst = some t
  · rw [if_pos hd, if_pos hd]
    unfold TagR at hv ⊢
    cases tag with
    | none => exact hv
    | some gw =>
      obtain ⟨g, w⟩ := gw
      simp only at hv ⊢
      rw [hlk fun d hd => ht d hd g w rfl]
      exact hv
  · rw [if_neg hd, if_neg hd]
    have := hE t
    unfold TagR at this ⊢
    cases hx : lkE env t with
    | mk tg e' =>
      rw [hx] at this
      cases tg with
      | none => exact this
      | some gw =>
        obtain ⟨g, w⟩ := gw
        simp only at this ⊢
        rw [hlk fun d hd => noTag_ok (hn d hd) hx]
        exact this
theorem avail_ok {ro : List (List T)} {m : Mst} {env : Env2} {env1 : Env} (hE : EnvR ro m env env1) : ∀ (n g : Nat) (w : Bool), lk env1 g = .bool w → AvOk env1 (avail env n g w)
  | 0, g, w, h => fun g' w' hm => by
    simp only [avail, mem2, Bool.or_false, Bool.and_eq_true] at hm
    have e1 := Nat.eq_of_beq_eq_true hm.1
    have e2 : w = w' := by simpa using hm.2
    rw [← e1, ← e2]; exact h
  | n + 1, g, w, h => fun g' w' hm => by
    simp only [avail, mem2, Bool.or_eq_true, Bool.and_eq_true] at hm
    rcases hm with hm | hm
    · have e1 := Nat.eq_of_beq_eq_true hm.1
      have e2 : w = w' := by simpa using hm.2
      rw [← e1, ← e2]; exact h
    · have := hE g
      unfold TagR at this
      cases hx : (lkE env g).1 with
      | none => rw [hx] at hm; simp [mem2] at hm
      | some gw =>
        obtain ⟨g2, w2⟩ := gw
        rw [hx] at hm this
        rcases this.2.2 with h2 | h2
        · exact avail_ok hE n g2 w2 h2 g' w' hm
        · rw [h2] at h; cases h
theorem free_ok {dst : Option Tmp} {g : Option (Nat × Bool × Value)} {env : Env2} (h : freeD dst g env = true) : (∀ d, dst = some d → noTag env d = true) ∧ ∀ d, dst = some d → ∀ t w gv, g = some (t, w, gv) → t ≠ d := by
  cases dst with
  | none => exact ⟨fun d hd => (by cases hd), fun d hd => (by cases hd)⟩
  | some d =>
    simp only [freeD, Bool.and_eq_true] at h
    refine ⟨fun d' hd => (by cases hd; exact h.1), fun d' hd t w gv hg he => ?_⟩
    cases hd; subst hg; subst he
    simp at h
theorem partsS_some {P : Program} {env : Env2} {env1 : Env} {av : List (Nat × Bool)} {fields : Array Field} : ∀ {parts : List (Nat × Operand)} {ps : List (Nat × Nat × List E0)}, partsX P av env fields parts = some ps → ∃ l, partsS P env1 fields parts = some l
  | [], ps, hp => ⟨[], rfl⟩
  | (i, x) :: r, ps, hp => by
    simp only [partsX, Option.bind_eq_some_iff, Option.map_eq_some_iff] at hp
    obtain ⟨f, h1, sz, h2, ys, h3, l, h4, rfl⟩ := hp
    obtain ⟨l', h5⟩ := partsS_some (env1 := env1) h4
    simp only [partsS, h1, h2, h5, Option.bind_some, Option.map_some]
    exact ⟨_, rfl⟩
theorem partE_nv {y : E0} {sz : Nat} : ∀ x z, partE y sz (fst2 x) (snd2 x) = .o (.v z) → z = x := fun x z h => by
  cases y <;> simp [partE] at h
theorem gval_ok {ro : List (List T)} {m : Mst} {env : Env2} {env1 : Env} (hE : EnvR ro m env env1) : ∀ (n t : Nat) (gv : Value), gval env n t = some gv → lk env1 t = gv
  | 0, t, gv, h => val_ok h (tk_ok (fun g w h => by simp [mem2] at h) (hE t))
  | n + 1, t, gv, h => by
    unfold gval at h
    have ht := hE t
    split at h
    · rename_i g w a he
      simp only [Option.map_eq_some_iff] at h
      obtain ⟨gw, h1, rfl⟩ := h
      have hg := gval_ok hE n g gw h1
      rw [he] at ht
      obtain ⟨t1, t2, t3⟩ := ht
      by_cases hon : lk env1 g = .bool w
      · have := (t1 hon).1
        rw [hg] at hon; subst hon
        rw [this]; cases w <;> rfl
      · have hu := t3.resolve_left hon
        rw [hu]
        rw [hg] at hon
        unfold selW
        split
        · exact absurd rfl hon
        · exact absurd rfl hon
        · rfl
    · exact val_ok h (tk_ok (fun g w h => by simp [mem2] at h) ht)
theorem opOf_some {C : Ctx} {ro : List (List T)} {sgs : List (Nat × Sg)} {ob : Obs} {nk : Nat} {env : Env2} {env1 : Env} {av : List (Nat × Bool)} {o : Oper} {r : R2} (h : op2 C sgs ro ob nk av env o = some r) : ∃ st, opOf C.P env1 o = some st ∧ ∀ w mk, r = .wd w mk → ∀ x y, mk x = .o (.v y) → y = x := by
  have hv : ∀ {m : (Value → Prop) → Prop}, ∀ w mk, R2.wd m val1 = .wd w mk → ∀ x y, mk x = .o (.v y) → y = x := fun w mk hh x y hy => by cases hh; cases hy; rfl
  obtain ⟨dst, op, type, pos, after, guard⟩ := o
  cases op
  case move x => simp only [op2, Option.some.injEq] at h; subst h; exact ⟨_, rfl, fun w mk hh => (by cases hh)⟩
  case assign x => simp only [op2, Option.some.injEq] at h; subst h; exact ⟨_, rfl, fun w mk hh => (by cases hh)⟩
  case pick c a b =>
    simp only [op2, Option.bind_eq_some_iff, Option.map_eq_some_iff] at h
    obtain ⟨cv, h1, x, h2, y, h3, rfl⟩ := h
    exact ⟨_, rfl, hv⟩
  case alloc t =>
    simp only [op2, Option.map_eq_some_iff] at h
    obtain ⟨z, hz, rfl⟩ := h
    exact ⟨.al (al z.1), by simp only [opOf, hz, Option.map_some], fun w mk hh => (by cases hh)⟩
  case box t x =>
    simp only [op2, Option.map_eq_some_iff] at h
    obtain ⟨xs, h1, rfl⟩ := h
    exact ⟨_, rfl, fun w mk hh => (by cases hh)⟩
  case build t parts =>
    simp only [op2, Option.bind_eq_some_iff] at h
    obtain ⟨z, hz, h⟩ := h
    split at h
    · rename_i fields hu
      split at h
      · rename_i hfo
        simp only [Option.bind_eq_some_iff, Option.map_eq_some_iff] at h
        obtain ⟨ps, h1, xs, h2, rfl⟩ := h
        obtain ⟨l, g1⟩ := partsS_some (env1 := env1) h1
        exact ⟨.pure (bd z.1 l), by simp only [opOf, hz, hu, hfo, Option.bind_some, if_true, g1, Option.map_some], fun w mk hh => (by cases hh)⟩
      · cases h
    · cases h
  case buildSlice t len parts =>
    simp only [op2] at h
    split at h
    · rename_i e hu
      simp only [Option.bind_eq_some_iff] at h
      obtain ⟨z, hz, ks, hks, zt, hzt, h⟩ := h
      split at h
      · rename_i hc
        simp only [Option.bind_eq_some_iff, Option.map_eq_some_iff] at h
        obtain ⟨ps, h1, p, h2, rfl⟩ := h
        simp only [Bool.and_eq_true, decide_eq_true_eq] at hc
        refine ⟨.al (bs z.2.1 len z.1 (partsL env1 z.2.1 parts.toList)), ?_, fun w mk hh => (by cases hh)⟩
        simp only [opOf, hu, hz, Option.bind_some]
        rw [if_pos (by simp only [Bool.and_eq_true, decide_eq_true_eq]; exact hc.1)]
      · cases h
    · cases h
  case load t x =>
    simp only [op2, Option.bind_eq_some_iff] at h
    obtain ⟨sz, hsz, ag, hag, h⟩ := h
    refine ⟨.rd (ev env1 x) (ld ag sz (ev env1 x)), by simp only [opOf, hsz, hag, Option.bind_some, Option.map_some], fun w mk hh => ?_⟩
    subst hh
    split at h
    · split at h
      · split at h
        · cases ag with
          | true => simp at h
          | false => simp only at h; split at h <;> simp at h
        · cases h
      · cases h
    · split at h
      · simp only [Option.bind_eq_some_iff] at h
        obtain ⟨ks, _, h⟩ := h
        split at h
        · cases ag with
          | true => simp at h
          | false =>
            simp only at h
            unfold loadK at h
            split at h
            · cases h; exact fun x y hy => (by cases hy; rfl)
            · cases h; exact fun x y hy => (by cases hy)
            · cases h
        · cases h
      · cases h
    · cases h
  case store t x v =>
    simp only [op2, Option.bind_eq_some_iff] at h
    obtain ⟨sz, hsz, h⟩ := h
    refine ⟨.mu (sto sz (ev env1 x) (ev env1 v)), by simp only [opOf, hsz, Option.map_some], fun w mk hh => ?_⟩
    subst hh
    split at h
    · split at h
      · simp only [Option.bind_eq_some_iff] at h
        obtain ⟨ys, _, h⟩ := h
        split at h <;> simp at h
      · cases h
    · simp only [Option.bind_eq_some_iff] at h
      obtain ⟨ks, _, h⟩ := h
      split at h
      · unfold storeK at h
        split at h
        · cases h
        · simp only [Option.bind_eq_some_iff] at h
          obtain ⟨_, _, _, _, h⟩ := h
          split at h <;> cases h
      · cases h
    · cases h
  case nilCheck x =>
    simp only [op2] at h
    refine ⟨.pure (nc (ev env1 x)), rfl, fun w mk hh => ?_⟩
    subst hh
    split at h
    · split at h <;> simp at h
    · cases h
  case fieldAddr t x i =>
    simp only [op2] at h
    split at h
    · rename_i fields hu
      simp only [Option.bind_eq_some_iff] at h
      obtain ⟨f, h1, sz, h2, h⟩ := h
      split at h
      · cases h
      · rename_i h0
        refine ⟨.pure (fa f.offset (ev env1 x)), by simp only [opOf, hu, h1, h2, Option.bind_some, h0, if_false], fun w mk hh => ?_⟩
        subst hh
        split at h
        · split at h <;> simp at h
        · cases h
    · cases h
  case binOp op t x y z =>
    simp only [op2] at h
    split at h
    · rename_i k hu
      simp only [Option.bind_eq_some_iff, Option.map_eq_some_iff] at h
      obtain ⟨a, h1, b, h2, rfl⟩ := h
      exact ⟨.pure (bnI op (ev env1 x) (ev env1 y)), by simp only [opOf, hu], hv⟩
    · rename_i hu
      simp only [Option.bind_eq_some_iff, Option.map_eq_some_iff] at h
      obtain ⟨a, h1, b, h2, rfl⟩ := h
      exact ⟨.pure (bnS op (ev env1 x) (ev env1 y)), by simp only [opOf, hu], hv⟩
    · rename_i hu
      simp only [Option.bind_eq_some_iff, Option.map_eq_some_iff] at h
      obtain ⟨a, h1, b, h2, rfl⟩ := h
      exact ⟨.pure (bnB op (ev env1 x) (ev env1 y)), by simp only [opOf, hu], hv⟩
    · rename_i fs hu
      split at h
      · simp only [Option.bind_eq_some_iff, Option.map_eq_some_iff] at h
        obtain ⟨a, h1, b, h2, rfl⟩ := h
        exact ⟨.pure (bnA C.P op t (ev env1 x) (ev env1 y)), by simp only [opOf, hu], hv⟩
      · cases h
    · cases h
  case unOp op t x =>
    simp only [op2, Option.map_eq_some_iff] at h
    obtain ⟨a, h1, rfl⟩ := h
    exact ⟨_, rfl, hv⟩
  case convert src dst' x =>
    simp only [op2] at h
    split at h
    · rename_i k1 k hu1 hu2
      simp only [Option.map_eq_some_iff] at h
      obtain ⟨a, h1, rfl⟩ := h
      exact ⟨.pure (cvI k (ev env1 x)), by simp only [opOf, hu1, hu2], hv⟩
    · rename_i e hu1 hu2
      split at h
      · rename_i y hu3 he
        simp only [Option.map_eq_some_iff] at h
        obtain ⟨c, h1, rfl⟩ := h
        exact ⟨.rd (ev env1 x) (b2s (ev env1 x)), by simp only [opOf, hu1, hu2, hu3], hv⟩
      · cases h
    · cases h
  case makeSlice t l c =>
    simp only [op2] at h
    split at h
    · rename_i e hu
      simp only [Option.bind_eq_some_iff] at h
      obtain ⟨z, hz, ks, hks, zt, hzt, h⟩ := h
      split at h
      · rename_i hc
        simp only [Option.bind_eq_some_iff, Option.map_eq_some_iff] at h
        obtain ⟨a, h1, b, h2, rfl⟩ := h
        simp only [Bool.and_eq_true, decide_eq_true_eq] at hc
        refine ⟨.al (mk z.2.2 z.2.1 z.1 (ev env1 l) (ev env1 c)), ?_, fun w mk hh => (by cases hh)⟩
        simp only [opOf, hu, hz, Option.bind_some]
        rw [if_pos (by simp only [Bool.and_eq_true, decide_eq_true_eq]; exact hc.1)]
      · cases h
    · cases h
  case slice t x lo hi mx =>
    cases mx with
    | some mx => simp [op2] at h
    | none =>
    simp only [op2] at h
    split at h
    · rename_i hu
      simp only [Option.bind_eq_some_iff, Option.map_eq_some_iff] at h
      obtain ⟨a, h1, l, h2, hh, h3, rfl⟩ := h
      exact ⟨.pure (scS (ev env1 x) (lo.map (ev env1)) (hi.map (ev env1))), by simp only [opOf, hu], hv⟩
    · rename_i e hu
      simp only [Option.bind_eq_some_iff] at h
      obtain ⟨sz, hsz, h⟩ := h
      refine ⟨.pure (scL sz (ev env1 x) (lo.map (ev env1)) (hi.map (ev env1))), by simp only [opOf, hu, hsz, Option.map_some], fun w mk hh => ?_⟩
      subst hh
      split at h
      · simp only [Option.bind_eq_some_iff] at h
        obtain ⟨_, _, _, _, h⟩ := h
        split at h
        · simp only [Option.bind_eq_some_iff, Option.map_eq_some_iff] at h
          obtain ⟨_, _, _, _, h⟩ := h
          cases h
          exact partE_nv
        · cases h
      · cases h
    · cases h
  case indexAddr t x i =>
    simp only [op2] at h
    split at h
    · rename_i e hu
      simp only [Option.bind_eq_some_iff] at h
      obtain ⟨sz, hsz, h⟩ := h
      refine ⟨.pure (ia sz (ev env1 x) (ev env1 i)), by simp only [opOf, hu, hsz, Option.map_some], fun w mk hh => ?_⟩
      subst hh
      split at h
      · simp only [Option.bind_eq_some_iff] at h
        obtain ⟨_, _, h⟩ := h
        split at h
        · simp only [Option.map_eq_some_iff] at h
          obtain ⟨a, _, h⟩ := h
          cases h
          exact fun x y hy => (by unfold elemE at hy; split at hy <;> cases hy)
        · cases h
      · cases h
    · cases h
  case index t x i =>
    simp only [op2] at h
    split at h
    · rename_i hu
      simp only [Option.bind_eq_some_iff, Option.map_eq_some_iff] at h
      obtain ⟨a, h1, b, h2, rfl⟩ := h
      exact ⟨.pure (ix (ev env1 x) (ev env1 i)), by simp only [opOf, hu], hv⟩
    · cases h
  case extract x i =>
    simp only [op2] at h
    refine ⟨_, rfl, fun w mk hh => ?_⟩
    subst hh
    split at h
    · split at h <;> simp at h
    · cases h
  case call c =>
    obtain ⟨callee, args, argTypes⟩ := c
    simp only [op2] at h
    split at h
    · rename_i f
      split at h
      · rename_i b hb
        split at h
        · cases h
        · rename_i hname
          simp only [Option.bind_eq_some_iff] at h
          obtain ⟨g, hg, h⟩ := h
          refine ⟨.call f (args.toList.map (ev env1)), by simp only [opOf, hb, hname, Bool.false_eq_true, if_false], fun w mk hh => ?_⟩
          subst hh
          simp only [callE, Option.bind_eq_some_iff] at h
          obtain ⟨ar, _, h⟩ := h
          split at h
          · cases h
          · split at h
            · cases h; exact fun x y hy => (by cases hy; rfl)
            · cases h
      · cases h
    · split at h
      · rename_i t x hat hax
        split at h
        · rename_i hu
          simp only [Option.map_eq_some_iff] at h
          obtain ⟨a, h1, rfl⟩ := h
          exact ⟨.pure (lnS (ev env1 x)), by simp only [opOf, hat, hax, hu], hv⟩
        · rename_i e hu
          split at h
          · simp only [Option.map_eq_some_iff] at h
            obtain ⟨n, hn, rfl⟩ := h
            exact ⟨.pure (lnL (ev env1 x)), by simp only [opOf, hat, hax, hu], fun w mk hh => (by cases hh)⟩
          · cases h
        · cases h
      · cases h
    · split at h
      · rename_i x y hax
        simp only [Option.bind_eq_some_iff, Option.map_eq_some_iff] at h
        obtain ⟨a, h1, b, h2, rfl⟩ := h
        exact ⟨.pure (mn (ev env1 x) (ev env1 y)), by simp only [opOf, hax], hv⟩
      · cases h
    · split at h
      · rename_i t u x y hat hax
        split at h
        · rename_i htu
          split at h
          · rename_i e hu
            simp only [Option.bind_eq_some_iff] at h
            obtain ⟨z, hz, ks, hks, h⟩ := h
            split at h
            · rename_i hc
              simp only [Bool.and_eq_true, decide_eq_true_eq] at hc
              split at h
              · simp only [Option.bind_eq_some_iff, Option.map_eq_some_iff] at h
                obtain ⟨⟨c1, n, ob1, aff⟩, h1, mm, h2, ⟨c2, ob2⟩, h3, rfl⟩ := h
                refine ⟨.mu (ap z.2.1 z.2.2 (ev env1 x) (ev env1 y)), ?_, fun w mk hh => (by cases hh)⟩
                simp only [opOf, hat, hax, htu, hu, hz, Option.bind_some, if_true]
                rw [if_pos (by simp only [Bool.and_eq_true, decide_eq_true_eq]; exact hc.1)]
              · cases h
            · cases h
          · cases h
        · cases h
      · cases h
    · cases h
  all_goals (simp [op2] at h)
/-- One operation. K2: what the text asks behind it. -/
theorem step_sound {C : Ctx} {B : Bas} {ro : List (List T)} {m : Mst} {sgs : List (Nat × Sg)} {ops : Array Oper} {env : Env2} {env1 : Env} {o : Oper} {g : Option (Nat × Bool × Value) × List (Nat × Bool)} {r : R2} {K : Obs → Nat → Env2 → Prop} (hm : Mem B ro m) (hE : EnvR ro m env env1)
    (hg : gdOf ops env o = some g) (hop : op2 C sgs ro m.ob m.nk g.2 env o = some r) (h : step2 g.1 r o.dst m.ob m.nk env K) :
    ∃ st, opOf C.P env1 o = some st ∧ ∃ v m' env', K m'.ob m'.nk env' ∧ Mem B ro m' ∧ Nx2 ro m (affOf r) (klOf r) m' ∧ EnvR ro m' env' (putE o.dst v env1) ∧
      match o.guard with
      | none => stpGoes C st m.s v m'.s
      | some (j, want) => ∃ t, dstOf ops j = some t ∧ ((lk env1 t = .bool want ∧ stpGoes C st m.s v m'.s) ∨ ((lk env1 t = .bool !want ∨ lk env1 t = undef) ∧ v = undef ∧ m' = m)) := by
  unfold step2 at h
  split at h
  · exact h.elim
  · rename_i hfree
    obtain ⟨hf1, hf2⟩ := free_ok hfree
    unfold gdOf at hg
    cases hgu : o.guard with
    | none =>
      rw [hgu] at hg
      simp only [Option.some.injEq] at hg; subst hg
      obtain ⟨st, hst, hr⟩ := op2_sound (C := C) hm hE (fun g w h => by simp [mem2] at h) hop
      refine ⟨st, hst, ?_⟩
      have put : ∀ {aff kl : List Nat} {v : Value} {e : EV} {m' : Mst}, Out C B ro m aff kl st v e m' → EnvR ro m' (putV o.dst none e (killEnv kl env)) (putE o.dst v env1) := fun ho =>
        env_put (g := none) (ho.kp.env hE) (fun d hd => noTag_kill (hf1 d hd)) (fun d hd g w hh => (by cases hh)) ho.ev
      cases r with
      | ev e => obtain ⟨v, ho⟩ := hr; exact ⟨v, m, _, h, ho.mem, ho.nxt, put ho, ho.goes⟩
      | st aff ob nk e => obtain ⟨v, s', A', ho⟩ := hr; exact ⟨v, ⟨s', ob, nk, A'⟩, _, h, ho.mem, ho.nxt, put ho, ho.goes⟩
      | wd w mk => obtain ⟨x, v, s', hK, ho⟩ := hr.2 _ h; exact ⟨v, ⟨s', m.ob, m.nk, m.A⟩, _, hK, ho.mem, ho.nxt, put ho, ho.goes⟩
      | fr aff kl w => obtain ⟨ob, nk, e, v, s', A', hK, ho⟩ := hr _ h; exact ⟨v, ⟨s', ob, nk, A'⟩, _, hK, ho.mem, ho.nxt, put ho, ho.goes⟩
    | some jw =>
      obtain ⟨j, want⟩ := jw
      rw [hgu] at hg
      simp only [Option.bind_eq_some_iff, Option.map_eq_some_iff] at hg
      obtain ⟨t, ht, gv, hgv, rfl⟩ := hg
      have hgl : lk env1 t = gv := gval_ok hE 6 t gv hgv
      have htd : ∀ d, o.dst = some d → t ≠ d := fun d hd => hf2 d hd t want gv rfl
      have hop2 : lk env1 t = .bool want → ∃ st, opOf C.P env1 o = some st ∧ R2S C B ro m st r := fun hon => op2_sound (C := C) hm hE (avail_ok hE 6 t want hon) hop
      have off : ∀ {e : EV}, (lk env1 t = .bool !want ∨ lk env1 t = undef) → (∀ a, e = .o (.q a) → undef = a) → EnvR ro m (putV o.dst (some (t, want)) e env) (putE o.dst undef env1) := fun hoff hq =>
        env_put (g := none) hE hf1 (fun d hd g w hh => (by cases hh; exact htd d hd)) ⟨fun hon => (by rcases hoff with h1 | h1 <;> rw [h1] at hon <;> cases want <;> cases hon), hq, .inr rfl⟩
      have on : ∀ {e e' : EV} {v : Value} {m' : Mst}, Out C B ro m [] [] (Stp.val v) v e m' → True := fun _ => trivial
      cases r with
      | ev e =>
        obtain ⟨hb, hK⟩ := h
        rw [← hgl] at hb
        by_cases hon : lk env1 t = .bool want
        · obtain ⟨st, hst, v, ho⟩ := hop2 hon
          refine ⟨st, hst, v, m, _, hK, hm, Nx2.refl, env_put (g := none) hE hf1 (fun d hd g w hh => (by cases hh; exact htd d hd)) ⟨fun _ => ?_, fun a ha => ?_, .inl hon⟩, t, ht, .inl ⟨hon, ho.goes⟩⟩
          · have hev := ho.ev
            cases e with
            | o x => cases x <;> first | exact hev | trivial
            | g xs => exact hev
            | u ys => exact hev
          · cases e with
            | o x => cases x <;> simp [noQ] at ha
            | g xs => simp [noQ] at ha
            | u ys => simp [noQ] at ha
        · have hoff : lk env1 t = .bool !want ∨ lk env1 t = undef := by
            cases hx : lk env1 t with
            | bool b =>
              left
              rw [hx] at hon
              cases b <;> cases want <;> first | exact absurd rfl hon | rfl
            | tuple vs =>
              obtain ⟨l⟩ := vs
              cases l with
              | nil => exact .inr rfl
              | cons a l => rw [hx] at hb; simp [isB] at hb
            | _ => rw [hx] at hb; simp [isB] at hb
          obtain ⟨st, hst, _⟩ := opOf_some (C := C) (env1 := env1) hop
          refine ⟨st, hst, undef, m, _, hK, hm, Nx2.refl, off hoff fun a ha => ?_, t, ht, .inr ⟨hoff, rfl, rfl⟩⟩
          cases e with
          | o x => cases x <;> simp [noQ] at ha
          | g xs => simp [noQ] at ha
          | u ys => simp [noQ] at ha
      | wd w mk =>
        rcases h with ⟨h1, h2⟩ | ⟨h1, h2⟩
        · rw [← hgl] at h1
          obtain ⟨st, hst, hmk, hr⟩ := hop2 h1
          obtain ⟨x, v, s', hK, ho⟩ := hr _ h2
          refine ⟨st, hst, v, ⟨s', m.ob, m.nk, m.A⟩, _, hK, ho.mem, ho.nxt, env_put (g := none) (by have := ho.kp.env hE; simpa [killEnv] using this) hf1 (fun d hd g w hh => (by cases hh; exact htd d hd)) ⟨fun _ => ?_, fun a ha => ?_, .inl h1⟩, t, ht, .inl ⟨h1, ho.goes⟩⟩
          · have hev := ho.ev
            cases hx : mk x with
            | o y => rw [hx] at hev; cases y <;> first | exact hev | trivial
            | g xs => rw [hx] at hev; exact hev
            | u ys => rw [hx] at hev; exact hev
          · have hev := ho.ev
            cases hx : mk x with
            | o y =>
              rw [hx] at hev ha
              cases y <;> simp [qq] at ha
              subst ha; exact hev.1
            | g xs => rw [hx] at ha; simp [qq] at ha
            | u ys => rw [hx] at ha; simp [qq] at ha
        · rw [← hgl] at h1
          obtain ⟨st, hst, hmk⟩ := opOf_some (C := C) (env1 := env1) hop
          replace hmk := hmk _ _ rfl
          refine ⟨st, hst, undef, m, _, h2, hm, Nx2.refl, off h1 fun a ha => ?_, t, ht, .inr ⟨h1, rfl, rfl⟩⟩
          cases hx : mk undef with
          | o y =>
            rw [hx] at ha
            cases y <;> simp [qq] at ha
            subst ha
            exact (hmk _ _ hx).symm
          | g xs => rw [hx] at ha; simp [qq] at ha
          | u ys => rw [hx] at ha; simp [qq] at ha
      | st aff ob nk e => exact h.elim
      | fr aff kl w => exact h.elim
theorem stp_gdd {C : Ctx} {ops : Array Oper} {env1 : Env} {o : Oper} {st : Stp} {K1 : Value → Q} {s s' : St} {v : Value} (hk : K1 v s') (h : match o.guard with
      | none => stpGoes C st s v s'
      | some (j, want) => ∃ t, dstOf ops j = some t ∧ ((lk env1 t = .bool want ∧ stpGoes C st s v s') ∨ ((lk env1 t = .bool !want ∨ lk env1 t = undef) ∧ v = undef ∧ s' = s))) : gdd ops env1 o (stpQ C st) K1 s := by
  unfold gdd
  cases hg : o.guard with
  | none => rw [hg] at h; exact stpQ_iff.2 ⟨v, s', h, hk⟩
  | some jw =>
    obtain ⟨j, want⟩ := jw
    rw [hg] at h
    obtain ⟨t, ht, h⟩ := h
    simp only [ht]
    rcases h with ⟨h1, h2⟩ | ⟨h1, rfl, rfl⟩
    · exact .inl ⟨h1, stpQ_iff.2 ⟨v, s', h2, hk⟩⟩
    · exact .inr ⟨h1, hk⟩
theorem goes_m {C : Ctx} {m m' : Mst} {ops : Array Oper} {env1 : Env} {o : Oper} {st : Stp} {v : Value} (h : match o.guard with
      | none => stpGoes C st m.s v m'.s
      | some (j, want) => ∃ t, dstOf ops j = some t ∧ ((lk env1 t = .bool want ∧ stpGoes C st m.s v m'.s) ∨ ((lk env1 t = .bool !want ∨ lk env1 t = undef) ∧ v = undef ∧ m' = m))) : match o.guard with
      | none => stpGoes C st m.s v m'.s
      | some (j, want) => ∃ t, dstOf ops j = some t ∧ ((lk env1 t = .bool want ∧ stpGoes C st m.s v m'.s) ∨ ((lk env1 t = .bool !want ∨ lk env1 t = undef) ∧ v = undef ∧ m'.s = m.s)) := by
  cases hg : o.guard with
  | none => rw [hg] at h; exact h
  | some jw =>
    rw [hg] at h
    obtain ⟨t, ht, h⟩ := h
    exact ⟨t, ht, h.imp id fun hh => ⟨hh.1, hh.2.1, by rw [hh.2.2]⟩⟩
theorem run2_sound {C : Ctx} {B : Bas} {ro : List (List T)} {sgs : List (Nat × Sg)} {ops : Array Oper} {K : Obs → Nat → Env2 → Prop} {K1 : Env → Q} {Φ : Mst → Prop} (hΦ : ∀ m m' aff kl, Φ m → Nx2 ro m aff kl m' → Φ m') (hK : ∀ m env env1, K m.ob m.nk env → Mem B ro m → EnvR ro m env env1 → Φ m → K1 env1 m.s) :
    ∀ (l : List Oper) (m : Mst) (env : Env2) (env1 : Env), Mem B ro m → EnvR ro m env env1 → Φ m → runOps2 C sgs ro ops l m.ob m.nk env K → runOps C ops l env1 K1 m.s
  | [], m, env, env1, hm, hE, hF, h => hK m env env1 h hm hE hF
  | o :: r, m, env, env1, hm, hE, hF, h => by
    simp only [runOps2] at h
    split at h
    · exact h.elim
    · rename_i g hg
      split at h
      · exact h.elim
      · rename_i x hx
        obtain ⟨st, hst, v, m', env', h1, h2, h3, h4, h5⟩ := step_sound hm hE hg hx h
        simp only [runOps]
        have he : oneOp C env1 o = stpQ C st := by funext K s; unfold oneOp; rw [hst]
        rw [he]
        exact stp_gdd (run2_sound hΦ hK r m' env' _ h2 h4 (hΦ _ _ _ _ hF h3) h1) (goes_m h5)
end Go.Proofs.Ytmikdglafmfnfaa.Eng
