/- The engine's truth, eighth part: one outcome, whatever is asked of it. -/
import Derived.Test.YtmikdglafmfnfaaEngG
namespace Go.Proofs.Ytmikdglafmfnfaa.Eng
open Go Go.RowKit
set_option linter.unusedVariables false
set_option linter.unusedSimpArgs false
/-- m asks K of one value and one memory, no older than s. -/
def Lin (m : (Value → Q) → Q) : Prop := ∀ K s, m K s → ∃ v s', s.n ≤ s'.n ∧ K v s' ∧ ∀ K' : Value → Q, K' v s' → m K' s
theorem ap_n {sz by' : Nat} {x y : Value} {s s' : St} {v : Value} (h : ap sz by' x y s = some (v, s')) : s.n ≤ s'.n := by
  unfold ap at h
  simp only [Option.bind_eq_some_iff] at h
  obtain ⟨new, _, h⟩ := h
  split at h
  · split at h
    · cases h; exact Nat.le_refl _
    · obtain ⟨_, h⟩ := Option.ite_none_right_eq_some.1 h
      cases h; simp [St.push_n]
  · simp only [Option.bind_eq_some_iff] at h
    obtain ⟨ob, _, old, _, h⟩ := h
    obtain ⟨_, h⟩ := Option.ite_none_right_eq_some.1 h
    cases h; simp [St.push_n, St.put_n]
  · cases h
theorem opOf_n {P : Program} {env : Env} {o : Oper} {st : Stp} {C : Ctx} {s s' : St} {v : Value} (h : opOf P env o = some st) (hg : stpGoes C st s v s') : s.n ≤ s'.n := by
  cases st with
  | val x => obtain ⟨_, rfl⟩ := hg; exact Nat.le_refl _
  | pure x => obtain ⟨_, rfl⟩ := hg; exact Nat.le_refl _
  | call f as => exact hg.1
  | rd w g =>
    have : s' = s := by
      obtain ⟨dst, op, type, pos, after, guard⟩ := o
      cases op
      case load t x =>
        simp only [opOf, Option.bind_eq_some_iff, Option.map_eq_some_iff, Stp.rd.injEq] at h
        obtain ⟨sz, hs, ag, ha, rfl, rfl⟩ := h
        simp only [stpGoes, ld] at hg
        split at hg
        · simp only [Option.bind_eq_some_iff] at hg
          obtain ⟨ob, _, cs, _, hg⟩ := hg
          split at hg
          · cases hg; rfl
          · split at hg <;> cases hg; rfl
        · cases hg
      case convert src dst' x =>
        simp only [opOf] at h
        split at h
        · cases h
        · split at h
          · simp only [Option.some.injEq, Stp.rd.injEq] at h
            obtain ⟨rfl, rfl⟩ := h
            simp only [stpGoes, b2s, Option.bind_eq_some_iff] at hg
            obtain ⟨cs, _, hg⟩ := hg
            split at hg <;> cases hg; rfl
          · cases h
        · cases h
      case slice t x lo hi mx => cases mx <;> simp only [opOf] at h <;> (repeat' (split at h)) <;> simp [Option.map_eq_some_iff] at h
      all_goals (simp only [opOf] at h; (repeat' (split at h)) <;> simp [Option.bind_eq_some_iff, Option.map_eq_some_iff] at h <;> (try (obtain ⟨_, _, h⟩ := h; (repeat' (split at h)) <;> simp at h)))
    rw [this]; exact Nat.le_refl _
  | al g =>
    have hE : VRE (fun _ => none) [] ⟨#[], []⟩ := fun t => trivial
    obtain ⟨dst, op, type, pos, after, guard⟩ := o
    cases op
    case alloc t =>
      simp only [opOf, Option.map_eq_some_iff, Stp.al.injEq] at h
      obtain ⟨z, hz, rfl⟩ := h
      simp only [stpGoes, al] at hg
      cases hg; simp [St.push_n]
    case box t x =>
      simp only [opOf, Option.some.injEq, Stp.al.injEq] at h
      subst h
      simp only [stpGoes, bx] at hg
      split at hg <;> cases hg; simp [St.push_n]
    case buildSlice t len parts =>
      simp only [opOf] at h
      split at h
      · simp only [Option.bind_eq_some_iff] at h
        obtain ⟨z, hz, h⟩ := h
        split at h
        · simp only [Option.some.injEq, Stp.al.injEq] at h
          subst h
          simp only [stpGoes, bs, Option.map_eq_some_iff] at hg
          obtain ⟨cs, _, hg⟩ := hg
          cases hg; simp [St.push_n]
        · cases h
      · cases h
    case makeSlice t x y =>
      simp only [opOf] at h
      split at h
      · simp only [Option.bind_eq_some_iff] at h
        obtain ⟨z, hz, h⟩ := h
        split at h
        · simp only [Option.some.injEq, Stp.al.injEq] at h
          subst h
          simp only [stpGoes, mk] at hg
          split at hg
          · split at hg <;> cases hg; simp [St.push_n]
          · cases hg
        · cases h
      · cases h
    case slice t x lo hi mx => cases mx <;> simp only [opOf] at h <;> (repeat' (split at h)) <;> simp [Option.map_eq_some_iff] at h
    all_goals (simp only [opOf] at h; (repeat' (split at h)) <;> simp [Option.bind_eq_some_iff, Option.map_eq_some_iff] at h <;> (try (obtain ⟨_, _, h⟩ := h; (repeat' (split at h)) <;> simp at h)))
  | mu g =>
    obtain ⟨dst, op, type, pos, after, guard⟩ := o
    cases op
    case store t x y =>
      simp only [opOf, Option.map_eq_some_iff, Stp.mu.injEq] at h
      obtain ⟨sz, hs, rfl⟩ := h
      simp only [stpGoes, sto] at hg
      split at hg
      · simp only [Option.bind_eq_some_iff] at hg
        obtain ⟨ob, _, hg⟩ := hg
        split at hg <;> cases hg; simp [St.put_n]
      · cases hg
    case call c =>
      obtain ⟨callee, args, argTypes⟩ := c
      simp only [opOf] at h
      split at h
      · split at h
        · split at h <;> cases h
        · cases h
      · split at h
        · split at h <;> cases h
        · cases h
      · split at h <;> cases h
      · split at h
        · split at h
          · split at h
            · simp only [Option.bind_eq_some_iff] at h
              obtain ⟨z, hz, h⟩ := h
              split at h
              · simp only [Option.some.injEq, Stp.mu.injEq] at h
                subst h
                exact ap_n hg
              · cases h
            · cases h
          · cases h
        · cases h
      · cases h
    case slice t x lo hi mx => cases mx <;> simp only [opOf] at h <;> (repeat' (split at h)) <;> simp [Option.map_eq_some_iff] at h
    all_goals (simp only [opOf] at h; (repeat' (split at h)) <;> simp [Option.bind_eq_some_iff, Option.map_eq_some_iff] at h <;> (try (obtain ⟨_, _, h⟩ := h; (repeat' (split at h)) <;> simp at h)))
theorem lin_stp {C : Ctx} {P : Program} {env : Env} {o : Oper} {st : Stp} (h : opOf P env o = some st) : Lin (stpQ C st) := by
  intro K s hk
  obtain ⟨v, s', hg, hk⟩ := stpQ_iff.1 hk
  exact ⟨v, s', opOf_n h hg, hk, fun K' hk' => stpQ_iff.2 ⟨v, s', hg, hk'⟩⟩
theorem lin_gdd {ops : Array Oper} {env : Env} {o : Oper} {m : (Value → Q) → Q} (h : Lin m) : Lin (gdd ops env o m) := by
  intro K s hk
  unfold gdd at hk ⊢
  cases hg : o.guard with
  | none => simp only [hg] at hk ⊢; exact h K s hk
  | some jw =>
    obtain ⟨j, want⟩ := jw
    simp only [hg] at hk ⊢
    cases hd : dstOf ops j with
    | none => simp only [hd] at hk
    | some t =>
      simp only [hd] at hk ⊢
      rcases hk with ⟨h1, h2⟩ | ⟨h1, h2⟩
      · obtain ⟨v, s', hn, hv, hr⟩ := h K s h2
        exact ⟨v, s', hn, hv, fun K' hk' => .inl ⟨h1, hr K' hk'⟩⟩
      · exact ⟨undef, s, Nat.le_refl _, h2, fun K' hk' => .inr ⟨h1, hk'⟩⟩
/-- The same for a piece of code: one way out, one row of places, one memory. -/
def LinE (m : Kap → Q) : Prop := ∀ κ s, m κ s → ∃ e env s', s.n ≤ s'.n ∧ κ e env s' ∧ ∀ κ' : Kap, κ' e env s' → m κ' s
def LinK (m : (Env → Q) → Q) : Prop := ∀ K s, m K s → ∃ env s', s.n ≤ s'.n ∧ K env s' ∧ ∀ K' : Env → Q, K' env s' → m K' s
theorem lin_runOps {C : Ctx} {ops : Array Oper} : ∀ (l : List Oper) (env : Env), LinK (runOps C ops l env)
  | [], env, K, s, h => ⟨env, s, Nat.le_refl _, h, fun K' h' => h'⟩
  | o :: r, env, K, s, h => by
    simp only [runOps] at h ⊢
    have hl : Lin (oneOp C env o) := by
      unfold oneOp
      cases hop : opOf C.P env o with
      | none => intro K s h; exact h.elim
      | some st => exact lin_stp hop
    obtain ⟨v, s1, hn, h1, h2⟩ := lin_gdd (ops := ops) (env := env) (o := o) hl _ s h
    obtain ⟨env', s', hn', h3, h4⟩ := lin_runOps r _ K s1 h1
    exact ⟨env', s', Nat.le_trans hn hn', h3, fun K' hk' => h2 _ (h4 K' hk')⟩
theorem lin_drawOps {C : Ctx} {ops : Array Oper} {L : List Nat} : ∀ (l : List Oper) (i : Nat) (env : Env) (past : List (Nat × Value)) (pend : List (Nat × St × St)), LinK (drawOps C ops L i l env past pend)
  | [], i, env, past, pend, K, s, h => ⟨env, s, Nat.le_refl _, h, fun K' h' => h'⟩
  | o :: r, i, env, past, pend, K, s, h => by
    simp only [drawOps] at h ⊢
    cases hop : opOf C.P env o with
    | none => rw [hop] at h; exact h.elim
    | some st =>
      rw [hop] at h
      have hst := lin_stp (C := C) hop
      have fin : ∀ {m : (Value → Q) → Q} {past' : Value → List (Nat × Value)} {pend' : List (Nat × St × St)}, Lin m → (gdd ops env o m fun v => drawOps C ops L (i + 1) r (putE o.dst v env) (past' v) pend' K) s →
          ∃ env' s', s.n ≤ s'.n ∧ K env' s' ∧ ∀ K' : Env → Q, K' env' s' → (gdd ops env o m fun v => drawOps C ops L (i + 1) r (putE o.dst v env) (past' v) pend' K') s := by
        intro m past' pend' hm h
        obtain ⟨v, s1, hn, h1, h2⟩ := lin_gdd (ops := ops) (env := env) (o := o) hm _ s h
        obtain ⟨env', s', hn', h3, h4⟩ := lin_drawOps r (i + 1) _ _ _ K s1 h1
        exact ⟨env', s', Nat.le_trans hn hn', h3, fun K' hk' => h2 _ (h4 K' hk')⟩
      have finM : (hM : (match mets C.P L i 0 ops.toList with
        | false => gdd ops env o (stpQ C st) fun v => drawOps C ops L (i + 1) r (putE o.dst v env) past pend K
        | true => match o.guard with
          | some (j, want) => (match dstOf ops j with
            | some t => gN (lk env t) want (mon (picks L i past) (stpQ C st)) fun v a b => drawOps C ops L (i + 1) r (putE o.dst v env) past ((i, a, b) :: pend) K
            | none => fun _ => False)
          | none => mon (picks L i past) (stpQ C st) fun v a b => drawOps C ops L (i + 1) r (putE o.dst v env) past ((i, a, b) :: pend) K : Q) s) →
          ∃ env' s', s.n ≤ s'.n ∧ K env' s' ∧ ∀ K' : Env → Q, K' env' s' → (match mets C.P L i 0 ops.toList with
        | false => gdd ops env o (stpQ C st) fun v => drawOps C ops L (i + 1) r (putE o.dst v env) past pend K'
        | true => match o.guard with
          | some (j, want) => (match dstOf ops j with
            | some t => gN (lk env t) want (mon (picks L i past) (stpQ C st)) fun v a b => drawOps C ops L (i + 1) r (putE o.dst v env) past ((i, a, b) :: pend) K'
            | none => fun _ => False)
          | none => mon (picks L i past) (stpQ C st) fun v a b => drawOps C ops L (i + 1) r (putE o.dst v env) past ((i, a, b) :: pend) K' : Q) s := by
        intro h
        have hmon : ∀ {k}, mon (picks L i past) (stpQ C st) k s → ∃ v s1, s.n ≤ s1.n ∧ k v s s1 s1 ∧ ∀ k' : Value → St → St → Q, k' v s s1 s1 → mon (picks L i past) (stpQ C st) k' s := by
          intro k hk
          obtain ⟨v, s1, hn, h1, h2⟩ := hst _ s hk
          exact ⟨v, s1, hn, h1.2, fun k' hk' => h2 _ ⟨h1.1, hk'⟩⟩
        cases hm : mets C.P L i 0 ops.toList with
        | false => rw [hm] at h; exact fin (past' := fun _ => past) hst h
        | true =>
          rw [hm] at h
          cases hg : o.guard with
          | none =>
            rw [hg] at h
            obtain ⟨v, s1, hn, h1, h2⟩ := hmon h
            obtain ⟨env', s', hn', h3, h4⟩ := lin_drawOps r (i + 1) _ _ _ K s1 h1
            exact ⟨env', s', Nat.le_trans hn hn', h3, fun K' hk' => h2 _ (h4 K' hk')⟩
          | some jw =>
            obtain ⟨j, want⟩ := jw
            rw [hg] at h
            cases hd : dstOf ops j with
            | none => simp only [hd] at h
            | some t =>
              simp only [hd] at h ⊢
              rcases h with ⟨g1, g2⟩ | ⟨g1, g2⟩
              · obtain ⟨v, s1, hn, h1, h2⟩ := hmon g2
                obtain ⟨env', s', hn', h3, h4⟩ := lin_drawOps r (i + 1) _ _ _ K s1 h1
                exact ⟨env', s', Nat.le_trans hn hn', h3, fun K' hk' => .inl ⟨g1, h2 _ (h4 K' hk')⟩⟩
              · obtain ⟨env', s', hn', h3, h4⟩ := lin_drawOps r (i + 1) _ _ _ K s g2
                exact ⟨env', s', hn', h3, fun K' hk' => .inr ⟨g1, h4 K' hk'⟩⟩
      cases st with
      | rd w g =>
        refine fin (past' := fun _ => (i, w) :: past) ?_ h
        have hst' : Lin (mm g) := hst
        unfold samK
        cases picks L i pend with
        | nil => exact hst'
        | cons x xs =>
          intro K s hk
          obtain ⟨v, s', hn, hv, hr⟩ := hst' K s hk.2
          exact ⟨v, s', hn, hv, fun K' hk' => ⟨hk.1, hr K' hk'⟩⟩
      | al g => exact fin (past' := fun v => (i, v) :: past) hst h
      | val v => exact fin (past' := fun _ => past) hst h
      | pure x => exact fin (past' := fun _ => past) hst h
      | mu g => exact finM h
      | call f as => exact finM h
theorem loop_fold {F : (List Value → Q) → List Value → Q} (hm : ∀ R R' : List Value → Q, (∀ xs s, R xs s → R' xs s) → ∀ xs s, F R xs s → F R' xs s) {xs : List Value} {s : St} (h : F (loopM F) xs s) : loopM F xs s :=
  fun R hR => hR xs s (hm (loopM F) R (fun ys t ht => ht R hR) xs s h)
theorem lin_exec {C : Ctx} {an : List (Nat × List Nat)} {rm nt : Nat} : ∀ (c : Code) (env : Env) (lo : Nat) (exs : List (Nat × Nat)), LinE (exec C an rm nt c env lo exs)
  | .skip, env, lo, exs, κ, s, h => ⟨.nor, env, s, Nat.le_refl _, h, fun κ' h' => h'⟩
  | .region id ops false, env, lo, exs, κ, s, h => by
    obtain ⟨env', s', hn, h1, h2⟩ := lin_runOps ops.toList env _ s h
    exact ⟨.nor, env', s', hn, h1, fun κ' h' => h2 _ h'⟩
  | .region id ops true, env, lo, exs, κ, s, h => by
    simp only [exec] at h ⊢
    cases hl : lookL an id with
    | none => rw [hl] at h; exact h.elim
    | some L =>
      rw [hl] at h
      cases hd : drawOk L ops 0 ops.toList with
      | false => simp only [hd] at h
      | true =>
        simp only [hd] at h ⊢
        obtain ⟨env', s', hn, h1, h2⟩ := lin_drawOps ops.toList 0 env [] [] _ s h
        exact ⟨.nor, env', s', hn, h1, fun κ' h' => h2 _ h'⟩
  | .seq a b, env, lo, exs, κ, s, h => by
    simp only [exec] at h ⊢
    cases he : Nat.ble (ends a) 1 with
    | true =>
      rw [he] at h
      obtain ⟨e, env1, s1, hn, h1, h2⟩ := lin_exec a env _ _ _ s h
      cases e with
      | nor =>
        obtain ⟨e, env2, s2, hn', h3, h4⟩ := lin_exec b env1 _ _ _ s1 h1
        exact ⟨e, env2, s2, Nat.le_trans hn hn', h3, fun κ' h' => h2 _ (h4 κ' h')⟩
      | ext i => exact ⟨.ext i, env1, s1, hn, h1, fun κ' h' => h2 _ h'⟩
      | rt => exact ⟨.rt, env1, s1, hn, h1, fun κ' h' => h2 _ h'⟩
    | false =>
      rw [he] at h
      simp only [joinM] at h ⊢
      obtain ⟨e, env1, s1, hn, h1, h2⟩ := lin_exec a env _ _ _ s h
      cases e with
      | nor =>
        obtain ⟨e, env2, s2, hn', h3, h4⟩ := lin_exec b _ _ _ _ s1 h1
        exact ⟨e, env2, s2, Nat.le_trans hn hn', h3, fun κ' h' => h2 _ (h4 κ' h')⟩
      | ext i => exact ⟨.ext i, env1, s1, hn, h1, fun κ' h' => h2 _ h'⟩
      | rt => exact ⟨.rt, env1, s1, hn, h1, fun κ' h' => h2 _ h'⟩
  | .cond c x y, env, lo, exs, κ, s, h => by
    simp only [exec] at h ⊢
    rcases h with ⟨g, h⟩ | ⟨g, h⟩
    · obtain ⟨e, env1, s1, hn, h1, h2⟩ := lin_exec x env _ _ _ s h
      exact ⟨e, env1, s1, hn, h1, fun κ' h' => .inl ⟨g, h2 κ' h'⟩⟩
    · obtain ⟨e, env1, s1, hn, h1, h2⟩ := lin_exec y env _ _ _ s h
      exact ⟨e, env1, s1, hn, h1, fun κ' h' => .inr ⟨g, h2 κ' h'⟩⟩
  | .block id c, env, lo, exs, κ, s, h => by
    simp only [exec] at h ⊢
    obtain ⟨e, env1, s1, hn, h1, h2⟩ := lin_exec c env _ _ _ s h
    cases e with
    | nor => exact ⟨.nor, env1, s1, hn, h1, fun κ' h' => h2 _ h'⟩
    | ext i =>
      simp only [blkK] at h1
      cases hi : Nat.beq i id with
      | true => rw [hi] at h1; exact ⟨.nor, env1, s1, hn, h1, fun κ' h' => h2 _ (by simp only [blkK, hi]; exact h')⟩
      | false => rw [hi] at h1; exact ⟨.ext i, env1, s1, hn, h1, fun κ' h' => h2 _ (by simp only [blkK, hi]; exact h')⟩
    | rt => exact ⟨.rt, env1, s1, hn, h1, fun κ' h' => h2 _ h'⟩
  | .loop c, env, lo, exs, κ, s, h => by
    simp only [exec] at h ⊢
    refine h (fun xs s => ∃ e env' s', s.n ≤ s'.n ∧ κ e env' s' ∧ ∀ κ' : Kap, κ' e env' s' → loopM (fun self xs => exec C an rm nt c (inj (bitsOf (live rm c (live rm c 0 exs) exs) nt) 0 xs) (live rm c (live rm c 0 exs) exs) exs (thenK (fun env' => self (proj (bitsOf (live rm c (live rm c 0 exs) exs) nt) env')) κ')) xs s) fun xs s hF => ?_
    obtain ⟨e, env1, s1, hn, h1, h2⟩ := lin_exec c _ _ _ _ s hF
    have hmono : ∀ κ' : Kap, ∀ R R' : List Value → Q, (∀ xs s, R xs s → R' xs s) → ∀ xs s, exec C an rm nt c (inj (bitsOf (live rm c (live rm c 0 exs) exs) nt) 0 xs) (live rm c (live rm c 0 exs) exs) exs (thenK (fun env' => R (proj (bitsOf (live rm c (live rm c 0 exs) exs) nt) env')) κ') s →
        exec C an rm nt c (inj (bitsOf (live rm c (live rm c 0 exs) exs) nt) 0 xs) (live rm c (live rm c 0 exs) exs) exs (thenK (fun env' => R' (proj (bitsOf (live rm c (live rm c 0 exs) exs) nt) env')) κ') s := by
      intro κ' R R' hr xs s hx
      obtain ⟨e, env1, s1, hn, h1, h2⟩ := lin_exec c _ _ _ _ s hx
      refine h2 _ ?_
      cases e with
      | nor => exact hr _ _ h1
      | ext i => exact h1
      | rt => exact h1
    cases e with
    | nor =>
      obtain ⟨e, env2, s2, hn', h3, h4⟩ := h1
      exact ⟨e, env2, s2, Nat.le_trans hn hn', h3, fun κ' h' => loop_fold (hmono κ') (h2 _ (h4 κ' h'))⟩
    | ext i => exact ⟨.ext i, env1, s1, hn, h1, fun κ' h' => loop_fold (hmono κ') (h2 _ h')⟩
    | rt => exact ⟨.rt, env1, s1, hn, h1, fun κ' h' => loop_fold (hmono κ') (h2 _ h')⟩
  | .exit id, env, lo, exs, κ, s, h => ⟨.ext id, env, s, Nat.le_refl _, h, fun κ' h' => h'⟩
  | .ret, env, lo, exs, κ, s, h => ⟨.rt, env, s, Nat.le_refl _, h, fun κ' h' => h'⟩
  | .rangeFunc .., env, lo, exs, κ, s, h => h.elim
  | .scope .., env, lo, exs, κ, s, h => h.elim
  | .label .., env, lo, exs, κ, s, h => h.elim
  | .goto .., env, lo, exs, κ, s, h => h.elim
  | .refuse .., env, lo, exs, κ, s, h => h.elim
theorem ld_same {ag : Bool} {sz : Nat} {x v : Value} {s s' : St} (hg : ld ag sz x s = some (v, s')) : s' = s := by
  unfold ld at hg
  split at hg
  · simp only [Option.bind_eq_some_iff] at hg
    obtain ⟨ob, _, cs, _, hg⟩ := hg
    split at hg
    · cases hg; rfl
    · split at hg <;> cases hg; rfl
  · cases hg
theorem lin_ret {C : Ctx} : ∀ (rs : List ResultVar) (acc : List Value) (env : Env), Lin (retQ C.P rs acc env)
  | [], [], env, K, s, h => ⟨_, s, Nat.le_refl _, h.2, fun K' h' => ⟨h.1, h'⟩⟩
  | [], [v], env, K, s, h => ⟨_, s, Nat.le_refl _, h, fun K' h' => h'⟩
  | [], u :: v :: l, env, K, s, h => ⟨_, s, Nat.le_refl _, h.2, fun K' h' => ⟨h.1, h'⟩⟩
  | .tmp t :: r, acc, env, K, s, h => lin_ret r _ env K s h
  | .cell a t :: r, acc, env, K, s, h => by
    simp only [retQ] at h ⊢
    cases hs : szT C.P t with
    | none => rw [hs] at h; exact h.elim
    | some sz =>
      cases ha : aggT C.P t with
      | none => rw [hs, ha] at h; exact h.elim
      | some ag =>
        rw [hs, ha] at h
        obtain ⟨v, s1, hg, h⟩ := h
        have hs1 := ld_same hg
        subst hs1
        obtain ⟨u, s2, hn, hu, hr⟩ := lin_ret r _ env K _ h
        exact ⟨u, s2, hn, hu, fun K' h' => ⟨v, _, hg, hr K' h'⟩⟩
end Go.Proofs.Ytmikdglafmfnfaa.Eng
