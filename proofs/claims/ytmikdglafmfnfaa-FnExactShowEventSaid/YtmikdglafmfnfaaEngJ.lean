/- The engine's truth, tenth part: what a region's operations look at; the trace of a region. -/
import Derived.Test.YtmikdglafmfnfaaEngI
namespace Go.Proofs.Ytmikdglafmfnfaa.Eng
open Go Go.RowKit
set_option linter.unusedVariables false
set_option linter.unusedSimpArgs false
/-! ### An operation looks at its operands alone -/
theorem partsS_congr {P : Program} {env env' : Env} {fields : Array Field} : ∀ {l : List (Nat × Operand)}, (∀ p ∈ l, ev env' p.2 = ev env p.2) → partsS P env' fields l = partsS P env fields l
  | [], _ => rfl
  | (i, x) :: r, h => by
    simp only [partsS]
    rw [partsS_congr fun p hp => h p (List.mem_cons_of_mem _ hp), h (i, x) (by simp)]
theorem partsL_congr {env env' : Env} {sz : Nat} : ∀ {l : List (Nat × Operand)}, (∀ p ∈ l, ev env' p.2 = ev env p.2) → partsL env' sz l = partsL env sz l
  | [], _ => rfl
  | (i, x) :: r, h => by
    simp only [partsL]
    rw [partsL_congr fun p hp => h p (List.mem_cons_of_mem _ hp), h (i, x) (by simp)]
theorem opOf_congr {P : Program} {env env' : Env} (o : Oper) (h : ∀ x ∈ o.op.operands, ev env' x = ev env x) : opOf P env' o = opOf P env o := by
  obtain ⟨dst, op, type, pos, after, guard⟩ := o
  cases op <;> simp only [Op.operands] at h <;> simp only [opOf]
  case build t ps =>
    have hp : ∀ p ∈ ps.toList, ev env' p.2 = ev env p.2 := fun p hp => h p.2 (by simp; exact ⟨p.1, by simpa using hp⟩)
    have e1 : ∀ fields, partsS P env' fields ps.toList = partsS P env fields ps.toList := fun _ => partsS_congr hp
    have e2 : ∀ sz, partsL env' sz ps.toList = partsL env sz ps.toList := fun _ => partsL_congr hp
    simp only [e1, e2]
  case buildSlice t n ps =>
    have hp : ∀ p ∈ ps.toList, ev env' p.2 = ev env p.2 := fun p hp => h p.2 (by simp; exact ⟨p.1, by simpa using hp⟩)
    have e2 : ∀ sz, partsL env' sz ps.toList = partsL env sz ps.toList := fun _ => partsL_congr hp
    simp only [e2]
  case slice t x lo hi mx =>
    have hx := h x (by simp)
    cases mx with
    | some m => rfl
    | none =>
      cases lo <;> cases hi <;> simp_all [opOf]
  case call c =>
    have ha : ∀ x ∈ c.args.toList, ev env' x = ev env x := fun x hx => h x (by simp [Call.operands]; exact .inr (by simpa using hx))
    have hm : c.args.toList.map (ev env') = c.args.toList.map (ev env) := List.map_congr_left ha
    rw [hm]
    split
    · rfl
    · split
      · rename_i hts has
        rw [ha _ (by rw [has]; simp)]
      · rfl
    · split
      · rename_i x y has
        rw [ha x (by rw [has]; simp), ha y (by rw [has]; simp)]
      · rfl
    · split
      · rename_i t u x y hts has
        rw [ha x (by rw [has]; simp), ha y (by rw [has]; simp)]
      · rfl
    · rfl
  all_goals first
    | rfl
    | (simp_all; done)
theorem VRE_look {ρ : Rho} {env : Env} {a : Act} (T : List Nat) (h : ∀ t ∈ T, VR ρ (lk env t) (a.tmps.getD t undef)) : ∀ (L : List Nat) (i : Nat) (xs : List Value), (∀ t ∈ L, t ∈ T) → (∀ (j : Nat) t, L[j]? = some t → nx xs (i + j) = lk env t) → VRE ρ (inj L i xs) a
  | [], i, xs, _, _ => fun t => VR_wild _ _
  | l :: L, i, xs, hT, hx => fun t => by
    simp only [inj, lk_cons]
    by_cases ht : l = t
    · subst ht
      rw [if_pos rfl]
      have := hx 0 l rfl
      simp only [Nat.add_zero] at this
      rw [this]; exact h l (hT l (by simp))
    · rw [if_neg ht]
      exact VRE_look T h L (i + 1) xs (fun t ht => hT t (List.mem_cons_of_mem _ ht)) (fun j t hj => by have := hx (j + 1) t (by simpa using hj); rwa [show i + (j + 1) = i + 1 + j by omega] at this) t
theorem lk_look {env : Env} : ∀ (L : List Nat) (i : Nat) (xs : List Value), (∀ (j : Nat) t, L[j]? = some t → nx xs (i + j) = lk env t) → ∀ t ∈ L, lk (inj L i xs) t = lk env t
  | [], _, _, _, t, ht => by simp at ht
  | l :: L, i, xs, hx, t, ht => by
    simp only [inj, lk_cons]
    by_cases hl : l = t
    · subst hl
      rw [if_pos rfl]
      have := hx 0 l rfl
      simpa using this
    · rw [if_neg hl]
      have ht' : t ∈ L := by rcases List.mem_cons.1 ht with h | h; exact absurd h.symm hl; exact h
      exact lk_look L (i + 1) xs (fun j t hj => by have := hx (j + 1) t (by simpa using hj); rwa [show i + (j + 1) = i + 1 + j by omega] at this) t ht'
/-- The engine's places, but for those that nobody looks at. -/
theorem only {P : Program} {ρ : Rho} {env : Env} {a : Act} {ops : Array Oper} {o : Oper} (h : ∀ t ∈ o.looksAt ops, VR ρ (lk env t) (a.tmps.getD t undef)) :
    ∃ env', VRE ρ env' a ∧ opOf P env' o = opOf P env o ∧ ∀ t ∈ o.looksAt ops, lk env' t = lk env t := by
  have hp : ∀ (j : Nat) t, (o.looksAt ops)[j]? = some t → nx (proj (o.looksAt ops) env) (0 + j) = lk env t := fun j t hj => by simp [nx, proj, hj]
  refine ⟨inj (o.looksAt ops) 0 (proj (o.looksAt ops) env), VRE_look (o.looksAt ops) h _ 0 _ (fun _ h => h) hp, opOf_congr o fun x hx => ?_, lk_look _ 0 _ hp⟩
  cases x with
  | tmp t => exact lk_look _ 0 _ hp t (List.mem_append_left _ (List.mem_filterMap.2 ⟨.tmp t, by simpa using hx, rfl⟩))
  | _ => rfl
/-! ### The trace of a region -/
def Runs (ops : Array Oper) (env : Env) (o : Oper) : Prop := o.guard = none ∨ ∃ j want t, o.guard = some (j, want) ∧ dstOf ops j = some t ∧ lk env t = .bool want
def Skips (ops : Array Oper) (env : Env) (o : Oper) : Prop := ∃ j want t, o.guard = some (j, want) ∧ dstOf ops j = some t ∧ (lk env t = .bool !want ∨ lk env t = undef)
theorem not_both {ops : Array Oper} {env : Env} {o : Oper} (h : Runs ops env o) (k : Skips ops env o) : False := by
  obtain ⟨j, want, t, h1, h2, h3⟩ := k
  rcases h with h | ⟨j', want', t', k1, k2, k3⟩
  · rw [h] at h1; cases h1
  · rw [k1] at h1; cases h1
    rw [k2] at h2; cases h2
    rw [k3] at h3
    rcases h3 with h3 | h3
    · cases want <;> simp at h3
    · simp [undef] at h3
theorem gdd_split {ops : Array Oper} {env : Env} {o : Oper} {m : (Value → Q) → Q} {K : Value → Q} {s : St} (h : gdd ops env o m K s) : (Runs ops env o ∧ m K s) ∨ (Skips ops env o ∧ K undef s) := by
  unfold gdd at h
  cases hg : o.guard with
  | none => simp only [hg] at h; exact .inl ⟨.inl hg, h⟩
  | some jw =>
    obtain ⟨j, want⟩ := jw
    simp only [hg] at h
    cases hd : dstOf ops j with
    | none => simp only [hd] at h
    | some t =>
      simp only [hd] at h
      rcases h with ⟨h1, h2⟩ | ⟨h1, h2⟩
      · exact .inl ⟨.inr ⟨j, want, t, hg, hd, h1⟩, h2⟩
      · exact .inr ⟨⟨j, want, t, hg, hd, h1⟩, h2⟩
/-- What one operation of a region leaves. -/
def After (C : Ctx) (ops : Array Oper) (L : List Nat) (i : Nat) (env : Env) (past : List (Nat × Value)) (pend : List (Nat × St × St)) (s : St) (v : Value) (s1 : St) (past' : List (Nat × Value)) (pend' : List (Nat × St × St)) (o : Oper) : Stp → Prop
  | .rd w _ => past' = (i, w) :: past ∧ pend' = pend ∧ (Runs ops env o → ∀ x ∈ picks L i pend, unch w x.1 x.2)
  | .al _ => past' = (i, v) :: past ∧ pend' = pend
  | .val _ => past' = past ∧ pend' = pend
  | .pure _ => past' = past ∧ pend' = pend
  | .mu _ => past' = past ∧ ((mets C.P L i 0 ops.toList = false ∧ pend' = pend) ∨ (pend' = (i, s, s1) :: pend ∧ (Runs ops env o → ∀ w ∈ picks L i past, unch w s s1)))
  | .call _ _ => past' = past ∧ ((mets C.P L i 0 ops.toList = false ∧ pend' = pend) ∨ (pend' = (i, s, s1) :: pend ∧ (Runs ops env o → ∀ w ∈ picks L i past, unch w s s1)))
theorem draw_step {C : Ctx} {ops : Array Oper} {L : List Nat} {o : Oper} {r : List Oper} {i : Nat} {env : Env} {past : List (Nat × Value)} {pend : List (Nat × St × St)} {K : Env → Q} {s : St} (h : drawOps C ops L i (o :: r) env past pend K s) :
    ∃ st v s1 past' pend', opOf C.P env o = some st ∧ ((Runs ops env o ∧ stpGoes C st s v s1) ∨ (Skips ops env o ∧ v = undef ∧ s1 = s)) ∧ After C ops L i env past pend s v s1 past' pend' o st ∧ drawOps C ops L (i + 1) r (putE o.dst v env) past' pend' K s1 := by
  simp only [drawOps] at h
  cases hop : opOf C.P env o with
  | none => rw [hop] at h; exact h.elim
  | some st =>
    rw [hop] at h
    have finM : ∀ (hmu : isMu st = true), ((match mets C.P L i 0 ops.toList with
        | false => gdd ops env o (stpQ C st) fun v => drawOps C ops L (i + 1) r (putE o.dst v env) past pend K
        | true => match o.guard with
          | some (j, want) => (match dstOf ops j with
            | some t => gN (lk env t) want (mon (picks L i past) (stpQ C st)) fun v a b => drawOps C ops L (i + 1) r (putE o.dst v env) past ((i, a, b) :: pend) K
            | none => fun _ => False)
          | none => mon (picks L i past) (stpQ C st) fun v a b => drawOps C ops L (i + 1) r (putE o.dst v env) past ((i, a, b) :: pend) K : Q) s) →
        ∃ v s1 past' pend', ((Runs ops env o ∧ stpGoes C st s v s1) ∨ (Skips ops env o ∧ v = undef ∧ s1 = s)) ∧ (past' = past ∧ ((mets C.P L i 0 ops.toList = false ∧ pend' = pend) ∨ (pend' = (i, s, s1) :: pend ∧ (Runs ops env o → ∀ w ∈ picks L i past, unch w s s1)))) ∧ drawOps C ops L (i + 1) r (putE o.dst v env) past' pend' K s1 := by
      intro hmu h
      cases hm : mets C.P L i 0 ops.toList with
      | false =>
        rw [hm] at h
        rcases gdd_split h with ⟨hr, h⟩ | ⟨hs, h⟩
        · obtain ⟨v, s1, hg, h⟩ := stpQ_iff.1 h
          exact ⟨v, s1, past, pend, .inl ⟨hr, hg⟩, ⟨rfl, .inl ⟨rfl, rfl⟩⟩, h⟩
        · exact ⟨undef, s, past, pend, .inr ⟨hs, rfl, rfl⟩, ⟨rfl, .inl ⟨rfl, rfl⟩⟩, h⟩
      | true =>
        rw [hm] at h
        have hrun : Runs ops env o → mon (picks L i past) (stpQ C st) (fun v a b => drawOps C ops L (i + 1) r (putE o.dst v env) past ((i, a, b) :: pend) K) s → ∃ v s1 past' pend', ((Runs ops env o ∧ stpGoes C st s v s1) ∨ (Skips ops env o ∧ v = undef ∧ s1 = s)) ∧
            (past' = past ∧ ((true = false ∧ pend' = pend) ∨ (pend' = (i, s, s1) :: pend ∧ (Runs ops env o → ∀ w ∈ picks L i past, unch w s s1)))) ∧ drawOps C ops L (i + 1) r (putE o.dst v env) past' pend' K s1 := by
          intro hr h
          obtain ⟨v, s1, hg, h⟩ := stpQ_iff.1 h
          exact ⟨v, s1, past, _, .inl ⟨hr, hg⟩, ⟨rfl, .inr ⟨rfl, fun _ => h.1⟩⟩, h.2⟩
        cases hg : o.guard with
        | none => rw [hg] at h; exact hrun (.inl hg) h
        | some jw =>
          obtain ⟨j, want⟩ := jw
          rw [hg] at h
          cases hd : dstOf ops j with
          | none => simp only [hd] at h
          | some t =>
            simp only [hd] at h
            rcases h with ⟨h1, h2⟩ | ⟨h1, h2⟩
            · exact hrun (.inr ⟨j, want, t, hg, hd, h1⟩) h2
            · have hs : Skips ops env o := ⟨j, want, t, hg, hd, h1⟩
              exact ⟨undef, s, past, _, .inr ⟨hs, rfl, rfl⟩, ⟨rfl, .inr ⟨rfl, fun hr => (not_both hr hs).elim⟩⟩, h2⟩
    cases st with
    | rd w g =>
      have hsam : ∀ K' : Value → Q, samK w (picks L i pend) g K' s → (∀ x ∈ picks L i pend, unch w x.1 x.2) ∧ mm g K' s := by
        intro K' hk
        unfold samK at hk
        cases hp : picks L i pend with
        | nil => rw [hp] at hk; exact ⟨by simp, hk⟩
        | cons x xs => rw [hp] at hk; exact hk
      rcases gdd_split h with ⟨hr, h⟩ | ⟨hs, h⟩
      · obtain ⟨h1, v, s1, hg, h2⟩ := hsam _ h
        exact ⟨_, v, s1, _, _, rfl, .inl ⟨hr, hg⟩, ⟨rfl, rfl, fun _ => h1⟩, h2⟩
      · exact ⟨_, undef, s, _, _, rfl, .inr ⟨hs, rfl, rfl⟩, ⟨rfl, rfl, fun hr => (not_both hr hs).elim⟩, h⟩
    | al g =>
      rcases gdd_split h with ⟨hr, h⟩ | ⟨hs, h⟩
      · obtain ⟨v, s1, hg, h2⟩ := h
        exact ⟨_, v, s1, _, _, rfl, .inl ⟨hr, hg⟩, ⟨rfl, rfl⟩, h2⟩
      · exact ⟨_, undef, s, _, _, rfl, .inr ⟨hs, rfl, rfl⟩, ⟨rfl, rfl⟩, h⟩
    | val v =>
      rcases gdd_split h with ⟨hr, h⟩ | ⟨hs, h⟩
      · exact ⟨_, v, s, _, _, rfl, .inl ⟨hr, rfl, rfl⟩, ⟨rfl, rfl⟩, h⟩
      · exact ⟨_, undef, s, _, _, rfl, .inr ⟨hs, rfl, rfl⟩, ⟨rfl, rfl⟩, h⟩
    | pure x =>
      rcases gdd_split h with ⟨hr, h⟩ | ⟨hs, h⟩
      · obtain ⟨v, hv, h2⟩ := h
        exact ⟨_, v, s, _, _, rfl, .inl ⟨hr, hv, rfl⟩, ⟨rfl, rfl⟩, h2⟩
      · exact ⟨_, undef, s, _, _, rfl, .inr ⟨hs, rfl, rfl⟩, ⟨rfl, rfl⟩, h⟩
    | mu g => obtain ⟨v, s1, past', pend', h1, h2, h3⟩ := finM rfl h; exact ⟨_, v, s1, past', pend', rfl, h1, h2, h3⟩
    | call f as => obtain ⟨v, s1, past', pend', h1, h2, h3⟩ := finM rfl h; exact ⟨_, v, s1, past', pend', rfl, h1, h2, h3⟩
/-- One step of the trace. -/
structure At (C : Ctx) (ops : Array Oper) (env : Env) (s : St) (v : Value) (env1 : Env) (s1 : St) (o : Oper) (st : Stp) : Prop where
  op : opOf C.P env o = some st
  envq : env1 = putE o.dst v env
  go : (Runs ops env o ∧ stpGoes C st s v s1) ∨ (Skips ops env o ∧ v = undef ∧ s1 = s)
/-- Operation j watches w. -/
def Watch (C : Ctx) (ops : Array Oper) (env : Env) (v : Value) (o : Oper) (w : Value) : Prop := (∃ g, opOf C.P env o = some (.rd w g) ∧ Runs ops env o) ∨ (∃ g, opOf C.P env o = some (.al g) ∧ w = v)
theorem mem_picks {α : Type} {L : List Nat} {i j : Nat} {x : α} : ∀ {l : List (Nat × α)}, (j, x) ∈ l → unord L i j = true → x ∈ picks L i l
  | (k, y) :: r, h, hu => by
    rcases List.mem_cons.1 h with h | h
    · cases h; simp [picks, hu]
    · simp only [picks]
      split
      · exact List.mem_cons_of_mem _ (mem_picks h hu)
      · exact mem_picks h hu
structure Trace (C : Ctx) (ops : Array Oper) (L : List Nat) (lo : Nat) (past : List (Nat × Value)) (pend : List (Nat × St × St)) (vals : Nat → Value) (sts : Nat → St) (envs : Nat → Env) : Prop where
  at_ : ∀ k o, lo ≤ k → ops[k]? = some o → ∃ st, At C ops (envs k) (sts k) (vals k) (envs (k + 1)) (sts (k + 1)) o st
  old : ∀ k o st j w, lo ≤ k → ops[k]? = some o → opOf C.P (envs k) o = some st → isMu st = true → Runs ops (envs k) o → mets C.P L k 0 ops.toList = true → (j, w) ∈ past → unord L k j = true → unch w (sts k) (sts (k + 1))
  owe : ∀ k o w g j x y, lo ≤ k → ops[k]? = some o → opOf C.P (envs k) o = some (.rd w g) → Runs ops (envs k) o → (j, x, y) ∈ pend → unord L k j = true → unch w x y
  later : ∀ k k' o o' st w, lo ≤ k' → k' < k → ops[k]? = some o → ops[k']? = some o' → opOf C.P (envs k) o = some st → isMu st = true → Runs ops (envs k) o → mets C.P L k 0 ops.toList = true → Watch C ops (envs k') (vals k') o' w → unord L k k' = true → unch w (sts k) (sts (k + 1))
  sooner : ∀ k k' o o' st w g, lo ≤ k → k < k' → ops[k]? = some o → ops[k']? = some o' → opOf C.P (envs k) o = some st → isMu st = true → Runs ops (envs k) o → mets C.P L k 0 ops.toList = true → opOf C.P (envs k') o' = some (.rd w g) → Runs ops (envs k') o' → unord L k' k = true → unch w (sts k) (sts (k + 1))
theorem trace_of {C : Ctx} {ops : Array Oper} {L : List Nat} {K : Env → Q} : ∀ (l : List Oper) (i : Nat) (env : Env) (past : List (Nat × Value)) (pend : List (Nat × St × St)) (s : St), ops.toList.drop i = l → i ≤ ops.size → drawOps C ops L i l env past pend K s →
    ∃ vals sts envs, envs i = env ∧ sts i = s ∧ K (envs ops.size) (sts ops.size) ∧ Trace C ops L i past pend vals sts envs
  | [], i, env, past, pend, s, hd, hi, h => by
    have hle : ops.size ≤ i := by
      have := congrArg List.length hd
      simp at this; omega
    have he : i = ops.size := by omega
    have hno : ∀ k o, i ≤ k → ¬ ops[k]? = some o := fun k o hk ho => by
      have := (Array.getElem?_eq_some_iff.1 ho).1; omega
    exact ⟨fun _ => undef, fun _ => s, fun _ => env, rfl, rfl, h, ⟨fun k o hk ho => (hno k o hk ho).elim, fun k o st j w hk ho => (hno k o hk ho).elim, fun k o w g j x y hk ho => (hno k o hk ho).elim,
      fun k k' o o' st w hk hkk ho => (hno k o (by omega) ho).elim, fun k k' o o' st w g hk hkk ho => (hno k o hk ho).elim⟩⟩
  | o :: r, i, env, past, pend, s, hd, hi, h => by
    have hget : ops[i]? = some o := by
      have : (ops.toList.drop i)[0]? = some o := by rw [hd]; rfl
      simpa using this
    have hlt : i < ops.size := (Array.getElem?_eq_some_iff.1 hget).1
    have hd' : ops.toList.drop (i + 1) = r := by
      have : (ops.toList.drop i).drop 1 = r := by rw [hd]; rfl
      rwa [List.drop_drop] at this
    obtain ⟨st, v, s1, past', pend', hop, hgo, haf, hrest⟩ := draw_step h
    obtain ⟨vals, sts, envs, he, hs, hK, T⟩ := trace_of r (i + 1) _ past' pend' s1 hd' hlt hrest
    have h1 : ∀ {α : Type} (x : α) (f : Nat → α) k, i + 1 ≤ k → (fun k => if k = i then x else f k) k = f k := fun x f k hk => if_neg (by omega)
    have hp : ∀ j w, (j, w) ∈ past → (j, w) ∈ past' := by
      intro j w hm
      cases st <;> simp only [After] at haf
      · rw [haf.1]; exact hm
      · rw [haf.1]; exact hm
      · rw [haf.1]; exact List.mem_cons_of_mem _ hm
      · rw [haf.1]; exact List.mem_cons_of_mem _ hm
      · rw [haf.1]; exact hm
      · rw [haf.1]; exact hm
    have hq : ∀ j x y, (j, x, y) ∈ pend → (j, x, y) ∈ pend' := by
      intro j x y hm
      cases st <;> simp only [After] at haf
      · rw [haf.2]; exact hm
      · rw [haf.2]; exact hm
      · rw [haf.2.1]; exact hm
      · rw [haf.2]; exact hm
      · rcases haf.2 with ⟨_, h⟩ | ⟨h, _⟩
        · rw [h]; exact hm
        · rw [h]; exact List.mem_cons_of_mem _ hm
      · rcases haf.2 with ⟨_, h⟩ | ⟨h, _⟩
        · rw [h]; exact hm
        · rw [h]; exact List.mem_cons_of_mem _ hm
    have hw : ∀ w, Watch C ops env v o w → (i, w) ∈ past' := by
      rintro w (⟨g, h1, h2⟩ | ⟨g, h1, h2⟩)
      · rw [hop] at h1; cases h1; rw [haf.1]; simp
      · rw [hop] at h1; cases h1; rw [haf.1, h2]; simp
    have hmu : ∀ (hm : isMu st = true), mets C.P L i 0 ops.toList = true → (i, s, s1) ∈ pend' ∧ (Runs ops env o → ∀ w ∈ picks L i past, unch w s s1) := by
      intro hm hmt
      cases st <;> simp only [isMu] at hm <;> try cases hm
      all_goals
        simp only [After] at haf
        rcases haf.2 with ⟨h, _⟩ | ⟨h, h'⟩
        · rw [h] at hmt; cases hmt
        · exact ⟨by rw [h]; simp, h'⟩
    refine ⟨fun k => if k = i then v else vals k, fun k => if k = i then s else sts k, fun k => if k = i then env else envs k, by simp, by simp, ?_, ?_⟩
    · have : ¬ ops.size = i := by omega
      simp only [this, if_false]; exact hK
    · have ne : ∀ {k}, i + 1 ≤ k → (k = i) = False := fun h => by simp; omega
      have split : ∀ {k}, i ≤ k → k = i ∨ i + 1 ≤ k := fun h => by omega
      refine ⟨fun k o' hk ho => ?_, fun k o' st' j w hk ho hop' hmu' hr hmt hm hu => ?_, fun k o' w g j x y hk ho hop' hr hm hu => ?_, fun k k' o1 o2 st' w hk hkk ho1 ho2 hop' hmu' hr hmt hwt hu => ?_, fun k k' o1 o2 st' w g hk hkk ho1 ho2 hop' hmu' hr hmt hop2 hr2 hu => ?_⟩
      · rcases split hk with rfl | hk
        · rw [hget] at ho; cases ho
          refine ⟨st, by simpa using hop, ?_, ?_⟩
          · simp [he]
          · simpa [hs] using hgo
        · have h2 : i + 1 ≤ k + 1 := by omega
          obtain ⟨st', hat⟩ := T.at_ k o' hk ho
          exact ⟨st', by simpa only [ne hk, ne h2, if_false] using hat⟩
      · rcases split hk with rfl | hk
        · rw [hget] at ho; cases ho
          simp only [if_true] at hop' hr
          rw [hop] at hop'; cases hop'
          have := (hmu hmu' hmt).2 hr w (mem_picks hm hu)
          simpa [hs] using this
        · have h2 : i + 1 ≤ k + 1 := by omega
          simp only [ne hk, ne h2, if_false] at hop' hr ⊢
          exact T.old k o' st' j w hk ho hop' hmu' hr hmt (hp j w hm) hu
      · rcases split hk with rfl | hk
        · rw [hget] at ho; cases ho
          simp only [if_true] at hop' hr
          rw [hop] at hop'; cases hop'
          exact haf.2.2 hr (x, y) (mem_picks (α := St × St) hm hu)
        · simp only [ne hk, if_false] at hop' hr
          exact T.owe k o' w g j x y hk ho hop' hr (hq j x y hm) hu
      · have hk1 : i + 1 ≤ k := by omega
        have h2 : i + 1 ≤ k + 1 := by omega
        simp only [ne hk1, ne h2, if_false] at hop' hr ⊢
        rcases split hk with rfl | hk
        · rw [hget] at ho2; cases ho2
          simp only [if_true] at hwt
          exact T.old k o1 st' _ w hk1 ho1 hop' hmu' hr hmt (hw w hwt) hu
        · simp only [ne hk, if_false] at hwt
          exact T.later k k' o1 o2 st' w hk hkk ho1 ho2 hop' hmu' hr hmt hwt hu
      · have hk1 : i + 1 ≤ k' := by omega
        simp only [ne hk1, if_false] at hop2 hr2
        rcases split hk with rfl | hk
        · rw [hget] at ho1; cases ho1
          simp only [if_true] at hop' hr
          rw [hop] at hop'; cases hop'
          have := T.owe k' o2 w g k s s1 hk1 ho2 hop2 hr2 (hmu hmu' hmt).1 hu
          simpa [hs] using this
        · have h2 : i + 1 ≤ k + 1 := by omega
          simp only [ne hk, ne h2, if_false] at hop' hr ⊢
          exact T.sooner k k' o1 o2 st' w g hk hkk ho1 ho2 hop' hmu' hr hmt hop2 hr2 hu
end Go.Proofs.Ytmikdglafmfnfaa.Eng
