/- The engine's truth, twelfth part: a region whose order is drawn goes as in its text. -/
import Derived.Test.YtmikdglafmfnfaaEngK
namespace Go.Proofs.Ytmikdglafmfnfaa.Eng
open Go Go.RowKit
set_option linter.unusedVariables false
set_option linter.unusedSimpArgs false
theorem mets_of {P : Program} {L : List Nat} {i : Nat} : ∀ (l : List Oper) (k j : Nat) (o : Oper), l[j]? = some o →
    (match o.op with | .load _ _ | .alloc _ | .box _ _ | .buildSlice _ _ _ | .makeSlice _ _ _ | .convert _ _ _ => true | _ => false) = true → unord L i (k + j) = true → i ≠ k + j → mets P L i k l = true
  | [], _, _, _, h, _, _, _ => by simp at h
  | z :: r, k, j, o, h, hk, hu, hne => by
    simp only [mets, Bool.or_eq_true]
    cases j with
    | zero =>
      simp at h; subst h
      rw [Nat.add_zero] at hu hne
      left
      have : (i == k) = false := by simpa using hne
      split at hk <;> first | (rename_i h; rw [h]; simp [hu, this]) | cases hk
    | succ j =>
      right
      rw [show k + (j + 1) = k + 1 + j by omega] at hu hne
      exact mets_of r (k + 1) j o (by simpa using h) hk hu hne
theorem kind_rd {P : Program} {env : Env} {o : Oper} {w : Value} {g : M1} (h : opOf P env o = some (.rd w g)) :
    (match o.op with | .load _ _ | .alloc _ | .box _ _ | .buildSlice _ _ _ | .makeSlice _ _ _ | .convert _ _ _ => true | _ => false) = true := by
  obtain ⟨dst, op, type, pos, after, guard⟩ := o
  cases op
  case load => rfl
  case convert => rfl
  case slice t x lo hi mx => cases mx <;> simp only [opOf] at h <;> (repeat' (split at h)) <;> simp [Option.map_eq_some_iff] at h
  all_goals first
    | rfl
    | (simp only [opOf] at h; (repeat' (split at h)) <;> simp [Option.bind_eq_some_iff, Option.map_eq_some_iff] at h <;> (try (obtain ⟨_, _, h⟩ := h; (repeat' (split at h)) <;> simp at h)))
theorem kind_al {P : Program} {env : Env} {o : Oper} {g : M1} (h : opOf P env o = some (.al g)) :
    (match o.op with | .load _ _ | .alloc _ | .box _ _ | .buildSlice _ _ _ | .makeSlice _ _ _ | .convert _ _ _ => true | _ => false) = true := by
  obtain ⟨dst, op, type, pos, after, guard⟩ := o
  cases op
  case slice t x lo hi mx => cases mx <;> simp only [opOf] at h <;> (repeat' (split at h)) <;> simp [Option.map_eq_some_iff] at h
  all_goals first
    | rfl
    | (simp only [opOf] at h; (repeat' (split at h)) <;> simp [Option.bind_eq_some_iff, Option.map_eq_some_iff] at h <;> (try (obtain ⟨_, _, h⟩ := h; (repeat' (split at h)) <;> simp at h)))
theorem mu_writer {P : Program} {env : Env} {o : Oper} {st : Stp} (h : opOf P env o = some st) (hm : isMu st = true) : isWriter o = true := by
  obtain ⟨dst, op, type, pos, after, guard⟩ := o
  cases st with
  | mu g =>
    cases op
    case store => rfl
    case call c =>
      obtain ⟨callee, args, argTypes⟩ := c
      simp only [opOf] at h
      split at h
      · rfl
      · (repeat' (split at h)) <;> cases h
      · (repeat' (split at h)) <;> cases h
      · rfl
      · cases h
    case slice t x lo hi mx => cases mx <;> simp only [opOf] at h <;> (repeat' (split at h)) <;> simp [Option.map_eq_some_iff] at h
    all_goals (simp only [opOf] at h; (repeat' (split at h)) <;> simp [Option.bind_eq_some_iff, Option.map_eq_some_iff] at h <;> (try (obtain ⟨_, _, h⟩ := h; (repeat' (split at h)) <;> simp at h)))
  | call f as =>
    cases op
    case store => rfl
    case call c =>
      obtain ⟨callee, args, argTypes⟩ := c
      simp only [opOf] at h
      split at h
      · rfl
      · (repeat' (split at h)) <;> cases h
      · (repeat' (split at h)) <;> cases h
      · rfl
      · cases h
    case slice t x lo hi mx => cases mx <;> simp only [opOf] at h <;> (repeat' (split at h)) <;> simp [Option.map_eq_some_iff] at h
    all_goals (simp only [opOf] at h; (repeat' (split at h)) <;> simp [Option.bind_eq_some_iff, Option.map_eq_some_iff] at h <;> (try (obtain ⟨_, _, h⟩ := h; (repeat' (split at h)) <;> simp at h)))
  | _ => cases hm
theorem al_shape {P : Program} {env : Env} {o : Oper} {g : M1} {s s' : St} {v : Value} (h : opOf P env o = some (.al g)) (hg : g s = some (v, s')) : ∃ cells, s' = s.push ⟨cells, true⟩ ∧ handle v = some s.n := by
  obtain ⟨dst, op, type, pos, after, guard⟩ := o
  cases op
  case alloc t =>
    simp only [opOf, Option.map_eq_some_iff, Stp.al.injEq] at h
    obtain ⟨z, hz, rfl⟩ := h
    simp only [al] at hg
    cases hg; exact ⟨_, rfl, rfl⟩
  case box t x =>
    simp only [opOf, Option.some.injEq, Stp.al.injEq] at h
    subst h
    simp only [bx] at hg
    split at hg <;> cases hg; exact ⟨_, rfl, rfl⟩
  case buildSlice t len parts =>
    simp only [opOf] at h
    split at h
    · simp only [Option.bind_eq_some_iff] at h
      obtain ⟨z, hz, h⟩ := h
      split at h
      · simp only [Option.some.injEq, Stp.al.injEq] at h
        subst h
        simp only [bs, Option.map_eq_some_iff] at hg
        obtain ⟨cs, _, hg⟩ := hg
        cases hg; exact ⟨_, rfl, rfl⟩
      · cases h
    · cases h
  case makeSlice t x y =>
    simp only [opOf] at h
    split at h
    · simp only [Option.bind_eq_some_iff] at h
      obtain ⟨z, hz, h⟩ := h
      split at h
      · simp only [Option.some.injEq, Stp.al.injEq] at h
        subst h
        simp only [mk] at hg
        split at hg
        · split at hg <;> cases hg; exact ⟨_, rfl, rfl⟩
        · cases hg
      · cases h
    · cases h
  case slice t x lo hi mx => cases mx <;> simp only [opOf] at h <;> (repeat' (split at h)) <;> simp [Option.map_eq_some_iff] at h
  all_goals (simp only [opOf] at h; (repeat' (split at h)) <;> simp [Option.bind_eq_some_iff, Option.map_eq_some_iff] at h <;> (try (obtain ⟨_, _, h⟩ := h; (repeat' (split at h)) <;> simp at h)))
section
variable {C : Ctx} {B : Start} {ops : Array Oper} {L : List Nat} {vals : Nat → Value} {sts : Nat → St} {envs : Nat → Env}
abbrev Tr (C : Ctx) (ops : Array Oper) (L : List Nat) (vals : Nat → Value) (sts : Nat → St) (envs : Nat → Env) : Prop := Trace C ops L 0 [] [] vals sts envs
def IsM (C : Ctx) (ops : Array Oper) (envs : Nat → Env) (k : Nat) : Prop := ∃ o st, ops[k]? = some o ∧ opOf C.P (envs k) o = some st ∧ isMu st = true ∧ Runs ops (envs k) o
theorem Trace.mono (T : Tr C ops L vals sts envs) : ∀ (b a : Nat), a ≤ b → b ≤ ops.size → (sts a).n ≤ (sts b).n
  | 0, a, h, _ => by have : a = 0 := by omega
                     subst this; exact Nat.le_refl _
  | b + 1, a, h, hb => by
    by_cases he : a = b + 1
    · subst he; exact Nat.le_refl _
    · refine Nat.le_trans (T.mono b a (by omega) (by omega)) ?_
      obtain ⟨st, hat⟩ := T.at_ b ops[b] (Nat.zero_le _) (by rw [Array.getElem?_eq_getElem (by omega)])
      rcases hat.go with ⟨_, hg⟩ | ⟨_, _, hs⟩
      · exact opOf_n hat.op hg
      · rw [hs]; exact Nat.le_refl _
theorem Trace.same (T : Tr C ops L vals sts envs) {k h : Nat} (hk : k < ops.size) (hm : ¬ IsM C ops envs k) (hh : h < (sts k).n) : (sts (k + 1)).get h = (sts k).get h := by
  have hget : ops[k]? = some ops[k] := by rw [Array.getElem?_eq_getElem hk]
  obtain ⟨st, hat⟩ := T.at_ k ops[k] (Nat.zero_le _) hget
  rcases hat.go with ⟨hr, hg⟩ | ⟨_, _, hs⟩
  · cases st with
    | val x => obtain ⟨_, hs⟩ := hg; rw [hs]
    | pure x => obtain ⟨_, hs⟩ := hg; rw [hs]
    | rd w g =>
      have hE : VRE (fun _ => none) [] ⟨#[], []⟩ := fun t => trivial
      have : sts (k + 1) = sts k := by
        have h2 := hat.op
        generalize ops[k] = o at h2
        obtain ⟨dst, op, type, pos, after, guard⟩ := o
        cases op
        case load t x =>
          simp only [opOf, Option.bind_eq_some_iff, Option.map_eq_some_iff, Stp.rd.injEq] at h2
          obtain ⟨sz, hs, ag, ha, rfl, rfl⟩ := h2
          exact ld_same hg
        case convert src dst' x =>
          simp only [opOf] at h2
          split at h2
          · cases h2
          · split at h2
            · simp only [Option.some.injEq, Stp.rd.injEq] at h2
              obtain ⟨rfl, rfl⟩ := h2
              simp only [stpGoes, b2s, Option.bind_eq_some_iff] at hg
              obtain ⟨cs, _, hg⟩ := hg
              obtain ⟨_, hg⟩ := Option.ite_none_right_eq_some.1 hg
              exact (Prod.mk.inj (Option.some.inj hg)).2.symm
            · cases h2
          · cases h2
        case slice t x lo hi mx => cases mx <;> simp only [opOf] at h2 <;> (repeat' (split at h2)) <;> simp [Option.map_eq_some_iff] at h2
        all_goals (simp only [opOf] at h2; (repeat' (split at h2)) <;> simp [Option.bind_eq_some_iff, Option.map_eq_some_iff] at h2 <;> (try (obtain ⟨_, _, h2⟩ := h2; (repeat' (split at h2)) <;> simp at h2)))
      rw [this]
    | al g =>
      obtain ⟨cells, hs, _⟩ := al_shape hat.op hg
      rw [hs, St.get_push, if_neg (by omega)]
    | mu g => exact absurd ⟨_, _, hget, hat.op, rfl, hr⟩ hm
    | call f as => exact absurd ⟨_, _, hget, hat.op, rfl, hr⟩ hm
  · rw [hs]
/-- What lies at h stays, over operations that leave it. -/
theorem Trace.chain (T : Tr C ops L vals sts envs) {h : Nat} : ∀ (b a : Nat), a ≤ b → b ≤ ops.size → h < (sts a).n → (∀ k, a ≤ k → k < b → IsM C ops envs k → (sts (k + 1)).get h = (sts k).get h) → (sts b).get h = (sts a).get h
  | 0, a, hab, _, _, _ => by have : a = 0 := by omega
                             subst this; rfl
  | b + 1, a, hab, hb, hh, hk => by
    by_cases he : a = b + 1
    · subst he; rfl
    · have ih := T.chain b a (by omega) (by omega) hh (fun k h1 h2 h3 => hk k h1 (by omega) h3)
      rw [← ih]
      have hlt : h < (sts b).n := Nat.lt_of_lt_of_le hh (T.mono b a (by omega) (by omega))
      by_cases hm : IsM C ops envs b
      · exact hk b (by omega) (by omega) hm
      · exact T.same (by omega) hm hlt
theorem envs_lk (T : Tr C ops L vals sts envs) (t : Nat) : ∀ (j : Nat), j ≤ ops.size → (∃ i, i < j ∧ dstOf ops i = some t ∧ (∀ k, k < j → dstOf ops k = some t → k ≤ i) ∧ lk (envs j) t = vals i) ∨ ((∀ k, k < j → dstOf ops k ≠ some t) ∧ lk (envs j) t = lk (envs 0) t)
  | 0, _ => .inr ⟨fun k hk => by omega, rfl⟩
  | j + 1, hj => by
    have hget : ops[j]? = some ops[j] := by rw [Array.getElem?_eq_getElem (by omega)]
    obtain ⟨st, hat⟩ := T.at_ j ops[j] (Nat.zero_le _) hget
    have hd : dstOf ops j = ops[j].dst := by simp [dstOf, hget]
    rw [hat.envq]
    by_cases ht : dstOf ops j = some t
    · refine .inl ⟨j, by omega, ht, fun k hk _ => by omega, ?_⟩
      rw [← hd, ht]; simp [putE, lk_cons]
    · have hlk : lk (putE ops[j].dst (vals j) (envs j)) t = lk (envs j) t := by
        rw [← hd]
        cases hdd : dstOf ops j with
        | none => rfl
        | some d => simp only [putE, lk_cons]; rw [if_neg (fun hh => ht (by rw [hdd, hh]))]
      rw [hlk]
      rcases envs_lk T t j (by omega) with ⟨i, h1, h2, h3, h4⟩ | ⟨h1, h2⟩
      · exact .inl ⟨i, by omega, h2, fun k hk hkd => by
          by_cases hkj : k = j
          · subst hkj; exact absurd hkd ht
          · exact h3 k (by omega) hkd, h4⟩
      · exact .inr ⟨fun k hk => by
          by_cases hkj : k = j
          · subst hkj; exact ht
          · exact h1 k (by omega), h2⟩
/-! ### What holds in the midst of a region -/
/-- The place in the trace at which h is what the machine has it to be; e stands behind the last writer. -/
def Idx (ops : Array Oper) (sts : Nat → St) (e h i : Nat) : Prop := e ≤ i ∧ i ≤ ops.size ∧ h < (sts i).n ∧ (i = e ∨ (sts (i - 1)).n ≤ h)
structure Mid (C : Ctx) (B : Start) (ops : Array Oper) (vals : Nat → Value) (sts : Nat → St) (envs : Nat → Env) (ρ1 : Rho) (W1 : World) (ls : Array Bool) (e : Nat) (ρ : Rho) (W : World) (a : Act) : Prop where
  lsz : ls.size = ops.size
  shut : Shut ops ls
  size : a.tmps.size = B.nt
  defers : a.defers = []
  env : ∀ t, (∃ i, On ls i ∧ dstOf ops i = some t ∧ (∀ k, On ls k → dstOf ops k = some t → k ≤ i) ∧ VR ρ (vals i) (a.tmps.getD t undef)) ∨ ((∀ k, On ls k → dstOf ops k ≠ some t) ∧ VR ρ (lk (envs 0) t) (a.tmps.getD t undef))
  dom : ∀ h p, ρ h = some p → ρ1 h = some p ∨ ∃ j, On ls j ∧ (sts j).n ≤ h ∧ h < (sts (j + 1)).n
  sub : Sub ρ1 ρ
  out : ∀ h, (h < (sts 0).n ∨ (sts ops.size).n ≤ h) → ρ h = ρ1 h
  last : (e = 0 ∨ ∃ m, e = m + 1 ∧ On ls m ∧ IsM C ops envs m) ∧ ∀ m, On ls m → IsM C ops envs m → m < e
  con : ∀ h p i ob, ρ h = some p → Idx ops sts e h i → (sts i).get h = some ob → Con C.w0.heap.size ρ W p ob
  inj : ∀ h h' p p' i i' ob ob', ρ h = some p → ρ h' = some p' → Idx ops sts e h i → Idx ops sts e h' i' → (sts i).get h = some ob → (sts i').get h' = some ob' → p.own = true → p'.own = true → p.b = p'.b → h = h'
  bel : Below C.w0.heap.size C.w0 W
  wsz : W1.heap.size ≤ W.heap.size
  frame : ∀ k, k < W1.heap.size → ¬ OwnBlk ρ1 (sts 0) k → W.heap[k]? = W1.heap[k]?
  own : ∀ k, k < W1.heap.size → (∃ h p i ob, ρ h = some p ∧ Idx ops sts e h i ∧ (sts i).get h = some ob ∧ p.own = true ∧ p.b = k) → OwnBlk ρ1 (sts 0) k
variable {ρ1 ρ : Rho} {W1 W : World} {ls : Array Bool} {e : Nat} {a : Act}
theorem Mid.e_le (M : Mid C B ops vals sts envs ρ1 W1 ls e ρ W a) : e ≤ ops.size := by
  rcases M.last.1 with h | ⟨m, h, _, o, st, ho, _⟩
  · omega
  · have := (Array.getElem?_eq_some_iff.1 ho).1; omega
theorem idx_in {h e : Nat} (he : ¬ h < (sts e).n) : ∀ j, e ≤ j → h < (sts j).n → ∃ i, e < i ∧ i ≤ j ∧ h < (sts i).n ∧ (sts (i - 1)).n ≤ h
  | 0, hj, hh => by have : e = 0 := by omega
                    subst this; exact absurd hh he
  | j + 1, hj, hh => by
    by_cases h1 : e = j + 1
    · subst h1; exact absurd hh he
    · by_cases h2 : h < (sts j).n
      · obtain ⟨i, g1, g2, g3, g4⟩ := idx_in he j (by omega) h2
        exact ⟨i, g1, by omega, g3, g4⟩
      · exact ⟨j + 1, by omega, Nat.le_refl _, hh, by simpa using h2⟩
theorem Mid.idx (T : Tr C ops L vals sts envs) (M : Mid C B ops vals sts envs ρ1 W1 ls e ρ W a) {j h : Nat} (hj : j ≤ ops.size) (hh : h < (sts j).n) : ∃ i, Idx ops sts e h i ∧ ((i = e ∧ h < (sts e).n) ∨ (e < i ∧ i ≤ j)) := by
  have hel := M.e_le
  by_cases he : h < (sts e).n
  · exact ⟨e, ⟨Nat.le_refl _, hel, he, .inl rfl⟩, .inl ⟨rfl, he⟩⟩
  · have hej : e ≤ j := by
      rcases Nat.le_total e j with h1 | h1
      · exact h1
      · exact absurd (Nat.lt_of_lt_of_le hh (T.mono e j h1 hel)) he
    obtain ⟨i, g1, g2, g3, g4⟩ := idx_in he j hej hh
    exact ⟨i, ⟨by omega, by omega, g3, .inr g4⟩, .inr ⟨g1, g2⟩⟩
/-- j comes next. -/
structure Nxt (ops : Array Oper) (ls : Array Bool) (j : Nat) (o : Oper) : Prop where
  get : ops[j]? = some o
  off : ls.getD j true = false
  all : ∀ e ∈ o.after, Region.binds .any e = true → On ls e.on
theorem Nxt.not {j : Nat} {o : Oper} (h : Nxt ops ls j o) : ¬ On ls j := by
  have := h.off
  unfold On
  intro hh
  rcases Nat.lt_or_ge j ls.size with h' | h'
  · simp [h'] at this hh; rw [this] at hh; cases hh
  · simp [Array.getElem?_eq_none h'] at this
theorem Nxt.lt {j : Nat} {o : Oper} (h : Nxt ops ls j o) : j < ops.size := (Array.getElem?_eq_some_iff.1 h.get).1
theorem Nxt.order (hO : Ord L ops) (hs : Shut ops ls) {j : Nat} {o : Oper} (h : Nxt ops ls j o) {k : Nat} {o' : Oper} (ho' : ops[k]? = some o') (hne : k ≠ j) (hu : unord L k j = false) : On ls k ↔ k < j := by
  constructor
  · intro hk
    rcases Nat.lt_or_ge k j with h1 | h1
    · exact h1
    · have := free_of hO hs h.get h.all h.not ho' (.inl ⟨hk, by omega⟩)
      rw [hu] at this; cases this
  · intro hk
    by_cases hon : On ls k
    · exact hon
    · have := free_of hO hs h.get h.all h.not ho' (.inr ⟨hon, hk⟩)
      rw [hu] at this; cases this
theorem dst_get {k t : Nat} (h : dstOf ops k = some t) : ∃ o, ops[k]? = some o ∧ o.dst = some t := by
  unfold dstOf at h
  cases ho : ops[k]? with
  | none => rw [ho] at h; cases h
  | some o => rw [ho] at h; exact ⟨o, rfl, h⟩
/-- Who writes what j looks at or writes has its place before or behind j. -/
theorem Nxt.writers (hO : Ord L ops) (hs : Shut ops ls) {j : Nat} {o : Oper} (h : Nxt ops ls j o) {t : Nat} (ht : t ∈ o.looksAt ops ∨ o.dst = some t) {k : Nat} (hk : dstOf ops k = some t) : On ls k ↔ k < j := by
  by_cases hkj : k = j
  · subst hkj; exact ⟨fun hh => absurd hh h.not, fun hh => by omega⟩
  · obtain ⟨o', ho', hd'⟩ := dst_get hk
    refine h.order hO hs ho' hkj ?_
    cases hu : unord L k j with
    | false => rfl
    | true =>
      rcases Nat.lt_or_gt_of_ne hkj with h1 | h1
      · obtain ⟨q1, q2, q3⟩ := Oper.apart_spec (hO.pair k j o' o h1 ho' h.get hu).1
        rcases ht with ht | ht
        · exact absurd ht (q1 t hd')
        · exact absurd ht (q2 t hd')
      · obtain ⟨q1, q2, q3⟩ := Oper.apart_spec (hO.pair j k o o' h1 h.get ho' (by rw [unord_comm]; exact hu)).1
        rcases ht with ht | ht
        · exact absurd ht (q3 t hd')
        · exact absurd hd' (q2 t ht)
theorem Mid.look_of (T : Tr C ops L vals sts envs) (M : Mid C B ops vals sts envs ρ1 W1 ls e ρ W a) {j t : Nat} (hj : j ≤ ops.size) (hw : ∀ k, dstOf ops k = some t → (On ls k ↔ k < j)) : VR ρ (lk (envs j) t) (a.tmps.getD t undef) := by
  rcases envs_lk T t j hj with ⟨i, h1, h2, h3, h4⟩ | ⟨h1, h2⟩
  · rw [h4]
    rcases M.env t with ⟨i', g1, g2, g3, g4⟩ | ⟨g1, _⟩
    · have e1 : i ≤ i' := g3 i ((hw i h2).2 h1) h2
      have e2 : i' ≤ i := h3 i' ((hw i' g2).1 g1) g2
      have : i = i' := by omega
      subst this; exact g4
    · exact absurd h2 (g1 i ((hw i h2).2 h1))
  · rw [h2]
    rcases M.env t with ⟨i', g1, g2, _, _⟩ | ⟨_, g2⟩
    · exact absurd g2 (h1 i' ((hw i' g2).1 g1))
    · exact g2
/-- The places behind j's going. -/
theorem Mid.envStep (hO : Ord L ops) (M : Mid C B ops vals sts envs ρ1 W1 ls e ρ W a) {j : Nat} {o : Oper} (h : Nxt ops ls j o) (hd : ∀ t, o.dst = some t → t < B.nt) {ρ' : Rho} {u : Value} (hs : Sub ρ ρ') (hv : VR ρ' (vals j) u) (t : Nat) :
    (∃ i, On (ls.setIfInBounds j true) i ∧ dstOf ops i = some t ∧ (∀ k, On (ls.setIfInBounds j true) k → dstOf ops k = some t → k ≤ i) ∧ VR ρ' (vals i) ((a.put o.dst u).tmps.getD t undef)) ∨
      ((∀ k, On (ls.setIfInBounds j true) k → dstOf ops k ≠ some t) ∧ VR ρ' (lk (envs 0) t) ((a.put o.dst u).tmps.getD t undef)) := by
  have hjl : j < ls.size := by rw [M.lsz]; exact h.lt
  have hdj : dstOf ops j = o.dst := by simp [dstOf, h.get]
  by_cases ht : o.dst = some t
  · refine .inl ⟨j, (on_set hjl).2 (.inl rfl), by rw [hdj]; exact ht, fun k hk hkd => ?_, ?_⟩
    · rcases (on_set hjl).1 hk with rfl | hk
      · exact Nat.le_refl _
      · exact Nat.le_of_lt ((h.writers hO M.shut (.inr ht) hkd).1 hk)
    · have hlt : t < a.tmps.size := by rw [M.size]; exact hd t ht
      rw [ht]
      simpa [Act.put, hlt] using hv
  · have hsame : (a.put o.dst u).tmps.getD t undef = a.tmps.getD t undef := by
      cases hdd : o.dst with
      | none => rfl
      | some d =>
        have : d ≠ t := fun hh => ht (by rw [hdd, hh])
        simp [Act.put, Array.getElem?_setIfInBounds_ne this]
    rw [hsame]
    rcases M.env t with ⟨i, g1, g2, g3, g4⟩ | ⟨g1, g2⟩
    · refine .inl ⟨i, (on_set hjl).2 (.inr g1), g2, fun k hk hkd => ?_, VR_mono hs g4⟩
      rcases (on_set hjl).1 hk with rfl | hk
      · rw [hdj] at hkd; exact absurd hkd ht
      · exact g3 k hk hkd
    · refine .inr ⟨fun k hk => ?_, VR_mono hs g2⟩
      rcases (on_set hjl).1 hk with rfl | hk
      · rw [hdj]; exact ht
      · exact g1 k hk
theorem Mid.shutStep (M : Mid C B ops vals sts envs ρ1 W1 ls e ρ W a) {j : Nat} {o : Oper} (h : Nxt ops ls j o) : Shut ops (ls.setIfInBounds j true) := by
  have hjl : j < ls.size := by rw [M.lsz]; exact h.lt
  intro k o' hk ho' ed he hb
  refine (on_set hjl).2 (.inr ?_)
  rcases (on_set hjl).1 hk with rfl | hk
  · rw [h.get] at ho'; cases ho'; exact h.all ed he hb
  · exact M.shut k o' hk ho' ed he hb
/-- Nothing of the memory has changed. -/
theorem Mid.step0 (hO : Ord L ops) (M : Mid C B ops vals sts envs ρ1 W1 ls e ρ W a) {j : Nat} {o : Oper} (h : Nxt ops ls j o) (hd : ∀ t, o.dst = some t → t < B.nt) {u : Value} (hv : VR ρ (vals j) u) (hm : ¬ IsM C ops envs j) :
    Mid C B ops vals sts envs ρ1 W1 (ls.setIfInBounds j true) e ρ W (a.put o.dst u) := by
  have hjl : j < ls.size := by rw [M.lsz]; exact h.lt
  refine ⟨by simp [M.lsz], M.shutStep h, by rw [put_size, M.size], by rw [put_defers', M.defers], M.envStep hO h hd (Sub.refl _) hv, fun x p hx => ?_, M.sub, M.out, ⟨?_, fun m hon hmm => ?_⟩, M.con, M.inj, M.bel, M.wsz, M.frame, M.own⟩
  · rcases M.dom x p hx with h1 | ⟨k, h1, h2⟩
    · exact .inl h1
    · exact .inr ⟨k, (on_set hjl).2 (.inr h1), h2⟩
  · rcases M.last.1 with h1 | ⟨m, h1, h2, h3⟩
    · exact .inl h1
    · exact .inr ⟨m, h1, (on_set hjl).2 (.inr h2), h3⟩
  · rcases (on_set hjl).1 hon with rfl | hon
    · exact absurd hmm hm
    · exact M.last.2 m hon hmm
end
end Go.Proofs.Ytmikdglafmfnfaa.Eng
