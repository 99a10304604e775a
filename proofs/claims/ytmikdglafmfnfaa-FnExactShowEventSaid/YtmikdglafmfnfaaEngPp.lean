/- The pure engine's truth: drawn regions. -/
import Derived.Test.YtmikdglafmfnfaaEngPo
namespace Go.Proofs.Ytmikdglafmfnfaa.Eng
open Go Go.RowKit
set_option linter.unusedVariables false
set_option linter.unusedSimpArgs false
set_option linter.constructorNameAsVariable false
theorem F_of_Win {s : St} {o : Bool} {cs : List T} {h b : Nat} {F : List Nat} (hw : Win s o cs h b F) : h ∈ F := by
  obtain ⟨_, _, _, _, _, _, rfl⟩ := hw; simp
theorem row_in {B : Bas} {ro : List (List T)} {m : Mst} (hm : Mem B ro m) {x : E0} {u : Value} {k h : Nat} (hx : E0R ro m x u) (hk : rootE x = [k]) (hkn : knownE ro m.ob x = true) (hh : handle u = some h) : h ∈ (m.A k).F ∧ (flatE x = true → h = (m.A k).h) := by
  cases x <;> simp only [rootE, List.cons.injEq, and_true, reduceCtorEq] at hk
  · subst hk
    rename_i k off
    simp only [knownE] at hkn
    split at hkn
    · rename_i xs hl
      have := hx.2.2 xs hl
      subst this
      simp only [pt, handle, Option.some.injEq] at hh
      subst hh
      obtain ⟨hF, _⟩ := hm.obr k _ hl
      exact ⟨by rw [hF]; simp, fun _ => rfl⟩
    · cases hkn
  · subst hk
    rename_i k pre off
    simp only [knownE] at hkn
    split at hkn
    · rename_i own cs hl
      obtain ⟨ds, h', b, F, h1, h2, h3, rfl, hw, hF⟩ := elem_ok hm hx hl
      simp only [pt, handle, Option.some.injEq] at hh
      subst hh
      refine ⟨hF.subset (F_of_Win hw), fun hfl => ?_⟩
      cases pre with
      | nil => simp only [spot, Option.some.injEq, Prod.mk.injEq] at h3; exact h3.1.symm
      | cons i r => simp [flatE] at hfl
    · cases hkn
  · subst hk
    rename_i k pre off n e
    simp only [knownE] at hkn
    split at hkn
    · rename_i own cs hl
      obtain ⟨_, _, hx⟩ := hx
      rcases hx own cs hl with ⟨rfl, _⟩ | ⟨ds, h', b, h1, h2, h3, h4, rfl⟩
      · simp [nl, handle] at hh
      · obtain ⟨F, hw, hF⟩ := hm.node hl h3 h1 h4
        simp only [sl, handle, Option.some.injEq] at hh
        subst hh
        refine ⟨hF.subset (F_of_Win hw), fun hfl => ?_⟩
        cases pre with
        | nil => simp only [spot, Option.some.injEq, Prod.mk.injEq] at h4; exact h4.1.symm
        | cons i r => simp [flatE] at hfl
    · cases hkn
  · subst hk
    rename_i k e
    simp only [knownE] at hkn
    split at hkn
    · rename_i own cs hl
      obtain ⟨_, _, _, hx⟩ := hx
      rcases hx own cs hl with ⟨rfl, _⟩ | ⟨n, h3, h4, rfl⟩
      · simp [nl, handle] at hh
      · simp only [sl, handle, Option.some.injEq] at hh
        subst hh
        obtain ⟨F, hw, hF⟩ := hm.node hl h3 (pre := []) rfl rfl
        exact ⟨hF.subset (F_of_Win hw), fun _ => rfl⟩
    · cases hkn
  · subst hk
    rename_i k pre e
    simp only [knownE] at hkn
    split at hkn
    · rename_i own cs hl
      obtain ⟨_, _, _, hx⟩ := hx
      obtain ⟨ds, h1, hx⟩ := hx own cs hl
      rcases hx with ⟨rfl, _⟩ | ⟨n, h', b, h3, h4, h5, rfl⟩
      · simp [nl, handle] at hh
      · obtain ⟨F, hw, hF⟩ := hm.node hl h3 h1 h4
        simp only [sl, handle, Option.some.injEq] at hh
        subst hh
        refine ⟨hF.subset (F_of_Win hw), fun hfl => ?_⟩
        cases pre with
        | nil => simp only [spot, Option.some.injEq, Prod.mk.injEq] at h4; exact h4.1.symm
        | cons i r => simp [flatE] at hfl
    · cases hkn
theorem known_look {ro : List (List T)} {ob : Obs} {x : E0} {k : Nat} (hk : rootE x = [k]) (h : knownE ro ob x = true) : ∃ o, look2 ro ob k = some o := by
  cases x <;> simp only [rootE, List.cons.injEq, and_true, reduceCtorEq] at hk <;> subst hk <;> simp only [knownE] at h <;> split at h <;> first | exact ⟨_, by assumption⟩ | cases h
theorem plain_unch {ro : List (List T)} {m : Mst} {x : E0} {u : Value} {s s' : St} (hx : E0R ro m x u) (hp : plainE x = true) : unch u s s' := by
  intro h hh
  cases x <;> simp [plainE] at hp
  · obtain ⟨rfl, hp⟩ := hx
    cases u <;> simp [plain] at hp <;> simp [handle] at hh
  · have : u = nl := hx
    subst this; simp [nl, handle] at hh
def PR (R : E0 → Value → Prop) (e : EV) (w : Value) : Prop := EVR R e w ∨ w = undef
theorem undef_unch {s s' : St} : unch undef s s' := fun h hh => by simp [undef, handle] at hh
theorem mon_ok {B : Bas} {ro : List (List T)} {m m' : Mst} {aff kl : List Nat} {e : EV} {w : Value} (hm : Mem B ro m) (hn : Nx2 ro m aff kl m') (hw : PR (E0R ro m) e w) (h : monE ro m.ob aff e = true) : unch w m.s m'.s := by
  rcases hw with hw | rfl
  · cases e with
    | o x =>
      simp only [monE, Bool.or_eq_true] at h
      rcases h with h | h
      · exact plain_unch hw h
      · split at h
        · rename_i k hk
          simp only [Bool.and_eq_true, Bool.not_eq_true'] at h
          obtain ⟨o, ho⟩ := known_look hk h.1
          intro y hy
          exact hn.afr k o ho h.2 y (row_in hm hw hk h.1 hy).1
        · cases h
    | g xs => simp [monE] at h
    | u ys => simp [monE] at h
  · exact undef_unch
theorem rget_some : ∀ {ro : List (List T)} {k : Nat}, k < ro.length → ∃ o, rget ro k = some o
  | [], k, h => by simp at h
  | c :: r, 0, h => ⟨_, rfl⟩
  | c :: r, k + 1, h => by simp only [rget]; exact rget_some (by simpa using h)
def Pend1 (ro : List (List T)) (m : Mst) (ids : List Nat) (a b : St) : Prop := ∀ k ∈ ids, k < m.nk ∧ ∀ o, look2 ro m.ob k = some o → ((m.A k).h ∈ (m.A k).F → b.get (m.A k).h = a.get (m.A k).h) ∧ (k < ro.length → ∀ h ∈ (m.A k).F, b.get h = a.get h)
theorem sam_ok {B : Bas} {ro : List (List T)} {m : Mst} {ids : List Nat} {a b : St} {e : EV} {w : Value} (hm : Mem B ro m) (hp : Pend1 ro m ids a b) (hw : PR (E0R ro m) e w) (h : samE ro m.ob ids e = true) : unch w a b := by
  rcases hw with hw | rfl
  · cases e with
    | o x =>
      simp only [samE, Bool.or_eq_true] at h
      rcases h with h | h
      · exact plain_unch hw h
      · split at h
        · rename_i k hk
          simp only [Bool.and_eq_true, Bool.or_eq_true] at h
          obtain ⟨o, ho⟩ := known_look hk h.1.1
          obtain ⟨k', hk', he⟩ := List.any_eq_true.1 h.1.2
          have := Nat.eq_of_beq_eq_true he
          subst this
          obtain ⟨h1, h2⟩ := (hp k hk').2 o ho
          intro y hy
          obtain ⟨g1, g2⟩ := row_in hm hw hk h.1.1 hy
          rcases h.2 with hf | hf
          · rw [g2 hf]; exact h1 (by rw [← g2 hf]; exact g1)
          · exact h2 (Nat.le_of_ble_eq_true hf) y g1
        · cases h
    | g xs => simp [samE] at h
    | u ys => simp [samE] at h
  · exact undef_unch
theorem Pend1.next {B : Bas} {ro : List (List T)} {m m' : Mst} {aff kl ids : List Nat} {a b : St} (hm : Mem B ro m) (hm' : Mem B ro m') (hn : Nx2 ro m aff kl m') (h : Pend1 ro m ids a b) : Pend1 ro m' ids a b := by
  intro k hk
  obtain ⟨h1, h2⟩ := h k hk
  refine ⟨Nat.lt_of_lt_of_le h1 hn.kp.nk, fun o' ho' => ?_⟩
  have hk0 := hn.kp.k0 k h1 o' ho'
  refine ⟨fun hmem => ?_, fun hro y hy => ?_⟩
  · cases o' with
    | bx xs' =>
      obtain ⟨⟨xs, hl⟩, he⟩ := hk0
      obtain ⟨hF, _⟩ := hm.obr k _ hl
      rw [he]; exact (h2 _ hl).1 (by rw [hF]; simp)
    | ls own' cs' =>
      obtain ⟨own, cs, hl, _, g1, g2, _⟩ := hk0
      rw [g2]
      refine (h2 _ hl).1 ?_
      rcases hm'.obr k _ ho' with ⟨_, _, hF⟩ | ⟨hnil, _⟩
      · rw [hF] at hmem; simp at hmem
      · rcases hm.obr k _ hl with ⟨hh, _⟩ | ⟨_, hw⟩
        · rw [g1, hh] at hnil; cases hnil
        · exact F_of_Win hw
  · rw [hn.agr k hro] at hy
    have : ∃ o, look2 ro m.ob k = some o := by
      rw [look2_ro hm.kok hro]; exact rget_some hro
    obtain ⟨o, ho⟩ := this
    exact (h2 o ho).2 hro y hy
def PastR (R : E0 → Value → Prop) : List (Nat × EV) → List (Nat × Value) → Prop
  | [], [] => True
  | (i, e) :: p, (j, w) :: q => i = j ∧ PR R e w ∧ PastR R p q
  | _, _ => False
def PendR (ro : List (List T)) (m : Mst) : List (Nat × List Nat) → List (Nat × St × St) → Prop
  | [], [] => True
  | (i, ids) :: p, (j, a, b) :: q => i = j ∧ Pend1 ro m ids a b ∧ PendR ro m p q
  | _, _ => False
theorem PastR.picks {R : E0 → Value → Prop} {L : List Nat} {i : Nat} : ∀ {p : List (Nat × EV)} {q : List (Nat × Value)}, PastR R p q → ∀ w ∈ picks L i q, ∃ e ∈ Eng.picks L i p, PR R e w
  | [], [], _, w, hw => by simp [Eng.picks] at hw
  | (a, e) :: p, (b, v) :: q, h, w, hw => by
    obtain ⟨rfl, h1, h2⟩ := h
    simp only [Eng.picks] at hw ⊢
    cases hu : unord L i a with
    | true =>
      rw [hu] at hw
      simp only [List.mem_cons] at hw ⊢
      rcases hw with rfl | hw
      · exact ⟨e, .inl rfl, h1⟩
      · obtain ⟨e', he, hp⟩ := PastR.picks h2 w hw; exact ⟨e', .inr he, hp⟩
    | false => rw [hu] at hw; exact PastR.picks h2 w hw
  | [], _ :: _, h, _, _ => h.elim
  | _ :: _, [], h, _, _ => h.elim
theorem PendR.picks {ro : List (List T)} {m : Mst} {L : List Nat} {i : Nat} : ∀ {p : List (Nat × List Nat)} {q : List (Nat × St × St)}, PendR ro m p q → ∀ x ∈ picks L i q, ∃ ids ∈ Eng.picks L i p, Pend1 ro m ids x.1 x.2
  | [], [], _, w, hw => by simp [Eng.picks] at hw
  | (a, ids) :: p, (b, x, y) :: q, h, w, hw => by
    obtain ⟨rfl, h1, h2⟩ := h
    simp only [Eng.picks] at hw ⊢
    cases hu : unord L i a with
    | true =>
      rw [hu] at hw
      simp only [List.mem_cons] at hw ⊢
      rcases hw with rfl | hw
      · exact ⟨ids, .inl rfl, h1⟩
      · obtain ⟨e', he, hp⟩ := PendR.picks h2 w hw; exact ⟨e', .inr he, hp⟩
    | false => rw [hu] at hw; exact PendR.picks h2 w hw
  | [], _ :: _, h, _, _ => h.elim
  | _ :: _, [], h, _, _ => h.elim
theorem PastR.next {ro : List (List T)} {m m' : Mst} {aff kl : List Nat} (hn : Nx2 ro m aff kl m') : ∀ {p : List (Nat × EV)} {q : List (Nat × Value)}, PastR (E0R ro m) p q → PastR (E0R ro m') (killP kl p) q := by
  have hkp : ∀ (p : List (Nat × EV)), killP kl p = p.map fun x => (x.1, killV kl x.2) := fun p => by
    cases kl with
    | nil => simp [killP, killV_nil]
    | cons a l => rfl
  intro p q h
  rw [hkp]
  induction p generalizing q with
  | nil => cases q with
    | nil => trivial
    | cons _ _ => exact h.elim
  | cons x p ih => cases q with
    | nil => obtain ⟨_, _⟩ := x; exact h.elim
    | cons y q =>
      obtain ⟨a, e⟩ := x; obtain ⟨b, w⟩ := y
      obtain ⟨h1, h2, h3⟩ := h
      exact ⟨h1, h2.imp (fun hh => hn.kp.ev hh) id, ih h3⟩
theorem PendR.next {B : Bas} {ro : List (List T)} {m m' : Mst} {aff kl : List Nat} (hm : Mem B ro m) (hm' : Mem B ro m') (hn : Nx2 ro m aff kl m') : ∀ {p : List (Nat × List Nat)} {q : List (Nat × St × St)}, PendR ro m p q → PendR ro m' p q
  | [], [], _ => trivial
  | (a, ids) :: p, (b, x, y) :: q, h => ⟨h.1, h.2.1.next hm hm' hn, PendR.next hm hm' hn h.2.2⟩
  | [], _ :: _, h => h.elim
  | _ :: _, [], h => h.elim
theorem upTo_lt : ∀ {n k : Nat}, k ∈ upTo n → k < n
  | n + 1, k, h => by
    simp only [upTo, List.mem_cons] at h
    rcases h with rfl | h
    · omega
    · have := upTo_lt h; omega
theorem pend_new {B : Bas} {ro : List (List T)} {m m' : Mst} {aff kl : List Nat} (hm : Mem B ro m) (hm' : Mem B ro m') (hn : Nx2 ro m aff kl m') : Pend1 ro m' (idsOf ro m.ob aff) m.s m'.s := by
  have : Pend1 ro m (idsOf ro m.ob aff) m.s m'.s := by
    intro k hk
    simp only [idsOf, List.mem_filter, List.mem_append, List.mem_map, Bool.not_eq_true'] at hk
    refine ⟨?_, fun o ho => ⟨fun hmem => hn.afr k o ho hk.2 _ hmem, fun _ h hh => hn.afr k o ho hk.2 h hh⟩⟩
    rcases hk.1 with ⟨x, hx, rfl⟩ | h
    · exact (hm.kok.lt x hx).2
    · exact Nat.lt_of_lt_of_le (upTo_lt h) hm.kok.ro
  exact this.next hm hm' hn
theorem ev_pr {ro : List (List T)} {m : Mst} {env : Env2} {env1 : Env} {av : List (Nat × Bool)} (hE : EnvR ro m env env1) (x : Operand) : PR (E0R ro m) (ev2 av env x) (ev env1 x) := by
  cases x with
  | tmp t =>
    have := hE t
    unfold TagR at this
    simp only [ev2, ev, tkE]
    cases hx : (lkE env t).1 with
    | none => rw [hx] at this; exact .inl this
    | some gw =>
      obtain ⟨g, w⟩ := gw
      rw [hx] at this
      simp only
      cases hmm : mem2 av g w with
      | true =>
        rcases this.2.2 with h | h
        · exact .inl (this.1 h)
        · exact .inr h
      | false => exact .inl (dng_ok this.2.1)
  | const v => exact .inl (constE_ok v)
  | _ => exact .inl trivial
theorem knd_ok {C : Ctx} {env1 : Env} {o : Oper} {st : Stp} (h : opOf C.P env1 o = some st) : match kndOf C o with
    | .rd => ∃ g x, st = .rd (ev env1 x) g ∧ ∀ av env, wOf av env o = ev2 av env x
    | .al => ∃ g, st = .al g
    | .no => (∃ v, st = .val v) ∨ ∃ r, st = .pure r
    | .mu => (∃ g, st = .mu g) ∨ ∃ f as, st = .call f as := by
  obtain ⟨dst, op, type, pos, after, guard⟩ := o
  cases op
  case move x => simp only [opOf, Option.some.injEq] at h; subst h; exact .inl ⟨_, rfl⟩
  case assign x => simp only [opOf, Option.some.injEq] at h; subst h; exact .inl ⟨_, rfl⟩
  case pick c a b => simp only [opOf, Option.some.injEq] at h; subst h; exact .inr ⟨_, rfl⟩
  case alloc t =>
    simp only [opOf, Option.map_eq_some_iff] at h
    obtain ⟨z, hz, rfl⟩ := h
    exact ⟨_, rfl⟩
  case box t x => simp only [opOf, Option.some.injEq] at h; subst h; exact ⟨_, rfl⟩
  case build t parts =>
    simp only [opOf, Option.bind_eq_some_iff] at h
    obtain ⟨z, hz, h⟩ := h
    split at h
    · split at h
      · simp only [Option.map_eq_some_iff] at h
        obtain ⟨_, _, rfl⟩ := h
        exact .inr ⟨_, rfl⟩
      · cases h
    · simp only [Option.map_eq_some_iff] at h
      obtain ⟨_, _, rfl⟩ := h
      exact .inr ⟨_, rfl⟩
    · cases h
  case buildSlice t len parts =>
    simp only [opOf] at h
    split at h
    · simp only [Option.bind_eq_some_iff] at h
      obtain ⟨z, hz, h⟩ := h
      split at h
      · cases h; exact ⟨_, rfl⟩
      · cases h
    · cases h
  case load t x =>
    simp only [opOf, Option.bind_eq_some_iff, Option.map_eq_some_iff] at h
    obtain ⟨_, _, _, _, rfl⟩ := h
    exact ⟨_, x, rfl, fun av env => rfl⟩
  case store t x v =>
    simp only [opOf, Option.map_eq_some_iff] at h
    obtain ⟨_, _, rfl⟩ := h
    exact .inl ⟨_, rfl⟩
  case nilCheck x => simp only [opOf, Option.some.injEq] at h; subst h; exact .inr ⟨_, rfl⟩
  case fieldAddr t x i =>
    simp only [opOf] at h
    split at h
    · simp only [Option.bind_eq_some_iff] at h
      obtain ⟨_, _, _, _, h⟩ := h
      split at h
      · cases h
      · cases h; exact .inr ⟨_, rfl⟩
    · cases h
  case binOp op t x y z =>
    simp only [opOf] at h
    split at h <;> first | (cases h; exact .inr ⟨_, rfl⟩) | cases h
  case unOp op t x => simp only [opOf, Option.some.injEq] at h; subst h; exact .inr ⟨_, rfl⟩
  case convert src dst' x =>
    simp only [opOf] at h
    split at h
    · rename_i hu _
      cases h
      simp only [kndOf, hu]
      exact .inr ⟨_, rfl⟩
    · rename_i hu _
      split at h
      · cases h
        simp only [kndOf, hu]
        exact ⟨_, x, rfl, fun av env => rfl⟩
      · cases h
    · cases h
  case makeSlice t l c =>
    simp only [opOf] at h
    split at h
    · simp only [Option.bind_eq_some_iff] at h
      obtain ⟨z, hz, h⟩ := h
      split at h
      · cases h; exact ⟨_, rfl⟩
      · cases h
    · cases h
  case slice t x lo hi mx =>
    cases mx with
    | some mx => simp [opOf] at h
    | none =>
      simp only [opOf] at h
      split at h
      · cases h; exact .inr ⟨_, rfl⟩
      · simp only [Option.map_eq_some_iff] at h
        obtain ⟨_, _, rfl⟩ := h
        exact .inr ⟨_, rfl⟩
      · cases h
  case indexAddr t x i =>
    simp only [opOf] at h
    split at h
    · simp only [Option.map_eq_some_iff] at h
      obtain ⟨_, _, rfl⟩ := h
      exact .inr ⟨_, rfl⟩
    · simp only [Option.map_eq_some_iff] at h
      obtain ⟨_, _, rfl⟩ := h
      exact .inr ⟨_, rfl⟩
    · cases h
  case index t x i =>
    simp only [opOf] at h
    split at h
    · cases h; exact .inr ⟨_, rfl⟩
    · cases h
  case extract x i => simp only [opOf, Option.some.injEq] at h; subst h; exact .inr ⟨_, rfl⟩
  case call c =>
    obtain ⟨callee, args, argTypes⟩ := c
    simp only [opOf] at h
    split at h
    · split at h
      · split at h
        · cases h
        · cases h; exact .inr ⟨_, _, rfl⟩
      · cases h
    · split at h
      · split at h <;> first | (cases h; exact .inr ⟨_, rfl⟩) | cases h
      · cases h
    · split at h <;> first | (cases h; exact .inr ⟨_, rfl⟩) | cases h
    · split at h
      · split at h
        · split at h
          · simp only [Option.bind_eq_some_iff] at h
            obtain ⟨z, hz, h⟩ := h
            split at h
            · cases h; exact .inl ⟨_, rfl⟩
            · cases h
          · cases h
        · cases h
      · cases h
    · cases h
  all_goals (simp [opOf] at h)
/-- What the guard lets pass, with another word in the operation's place. -/
theorem gdd_in {C : Ctx} {ops : Array Oper} {env1 : Env} {o : Oper} {st : Stp} {w : (Value → Q) → Q} {K1 : Value → Q} {s s' : St} {v : Value} (hk : K1 v s') (h : match o.guard with
      | none => stpGoes C st s v s'
      | some (j, want) => ∃ t, dstOf ops j = some t ∧ ((lk env1 t = .bool want ∧ stpGoes C st s v s') ∨ ((lk env1 t = .bool !want ∨ lk env1 t = undef) ∧ v = undef ∧ s' = s))) (hw : stpGoes C st s v s' → w K1 s) : gdd ops env1 o w K1 s := by
  unfold gdd
  cases hg : o.guard with
  | none => rw [hg] at h; exact hw h
  | some jw =>
    obtain ⟨j, want⟩ := jw
    rw [hg] at h
    obtain ⟨t, ht, h⟩ := h
    simp only [ht]
    rcases h with ⟨h1, h2⟩ | ⟨h1, rfl, rfl⟩
    · exact .inl ⟨h1, hw h2⟩
    · exact .inr ⟨h1, hk⟩
theorem draw2_sound {C : Ctx} {B : Bas} {ro : List (List T)} {sgs : List (Nat × Sg)} {ops : Array Oper} {L : List Nat} {K : Obs → Nat → Env2 → Prop} {K1 : Env → Q} {Φ : Mst → Prop} (hΦ : ∀ m m' aff kl, Φ m → Nx2 ro m aff kl m' → Φ m') (hK : ∀ m env env1, K m.ob m.nk env → Mem B ro m → EnvR ro m env env1 → Φ m → K1 env1 m.s) :
    ∀ (l : List Oper) (i : Nat) (m : Mst) (env : Env2) (env1 : Env) (p2 : List (Nat × EV)) (p1 : List (Nat × Value)) (q2 : List (Nat × List Nat)) (q1 : List (Nat × St × St)), Mem B ro m → EnvR ro m env env1 → PastR (E0R ro m) p2 p1 → PendR ro m q2 q1 → Φ m →
      drawOps2 C sgs ro ops L i l m.ob m.nk env p2 q2 K → drawOps C ops L i l env1 p1 q1 K1 m.s
  | [], i, m, env, env1, p2, p1, q2, q1, hm, hE, hp, hq, hF, h => hK m env env1 h hm hE hF
  | o :: r, i, m, env, env1, p2, p1, q2, q1, hm, hE, hp, hq, hF, h => by
    simp only [drawOps2] at h
    split at h
    · exact h.elim
    · rename_i g hg
      split at h
      · exact h.elim
      · rename_i x hx
        obtain ⟨st0, hst0, _⟩ := opOf_some (C := C) (env1 := env1) hx
        have hknd := knd_ok hst0
        split at h
        ·
          rename_i hkd
          rw [hkd] at hknd
          obtain ⟨gg, y, rfl, hwof⟩ := hknd
          split at h
          · rename_i hsam
            obtain ⟨st, hst, v, m', env', h1, h2, h3, h4, h5⟩ := step_sound hm hE hg hx h
            rw [hst0] at hst; cases hst
            simp only [drawOps, hst0]
            have hw : PR (E0R ro m) (wOf g.2 env o) (ev env1 y) := by rw [hwof]; exact ev_pr hE y
            have hrest := draw2_sound hΦ hK r (i + 1) m' env' (putE o.dst v env1) ((i, killV (klOf x) (wOf g.2 env o)) :: killP (klOf x) p2) ((i, ev env1 y) :: p1) q2 q1 h2 h4 ⟨rfl, hw.imp (fun hh => h3.kp.ev hh) id, hp.next h3⟩ (hq.next hm h2 h3) (hΦ _ _ _ _ hF h3) h1
            refine gdd_in hrest (goes_m h5) fun hgo => ?_
            have hall : ∀ z ∈ picks L i q1, unch (ev env1 y) z.1 z.2 := fun z hz => by
              obtain ⟨ids, hids, hp1⟩ := hq.picks z hz
              exact sam_ok hm hp1 hw (List.all_eq_true.1 hsam ids hids)
            unfold samK
            cases hpk : picks L i q1 with
            | nil => exact ⟨v, m'.s, hgo, hrest⟩
            | cons z zs => exact ⟨by rw [← hpk]; exact hall, v, m'.s, hgo, hrest⟩
          · exact h.elim
        ·
          rename_i hkd
          rw [hkd] at hknd
          obtain ⟨gg, rfl⟩ := hknd
          obtain ⟨st, hst, v, m', env', h1, h2, h3, h4, h5⟩ := step_sound hm hE hg hx h
          rw [hst0] at hst; cases hst
          simp only [drawOps, hst0]
          have hv : PR (E0R ro m') (resE o.dst env') v := by
            unfold resE
            cases hd : o.dst with
            | none => exact .inl trivial
            | some d =>
              have := h4 d
              unfold TagR at this
              simp only
              cases hx : (lkE env' d).1 with
              | none =>
                rw [hx] at this
                rw [lk_put, if_pos hd] at this
                exact .inl this
              | some _ => exact .inl trivial
          have hrest := draw2_sound hΦ hK r (i + 1) m' env' (putE o.dst v env1) ((i, resE o.dst env') :: killP (klOf x) p2) ((i, v) :: p1) q2 q1 h2 h4 ⟨rfl, hv, hp.next h3⟩ (hq.next hm h2 h3) (hΦ _ _ _ _ hF h3) h1
          exact gdd_in hrest (goes_m h5) fun hgo => ⟨v, m'.s, hgo, hrest⟩
        ·
          rename_i hkd
          rw [hkd] at hknd
          obtain ⟨st, hst, v, m', env', h1, h2, h3, h4, h5⟩ := step_sound hm hE hg hx h
          rw [hst0] at hst; cases hst
          have hrest := draw2_sound hΦ hK r (i + 1) m' env' (putE o.dst v env1) (killP (klOf x) p2) p1 q2 q1 h2 h4 (hp.next h3) (hq.next hm h2 h3) (hΦ _ _ _ _ hF h3) h1
          rcases hknd with ⟨w, rfl⟩ | ⟨w, rfl⟩
          · simp only [drawOps, hst0]
            refine gdd_in hrest (goes_m h5) fun hgo => ?_
            obtain ⟨rfl, hs⟩ := hgo
            rw [← hs]; exact hrest
          · simp only [drawOps, hst0]
            refine gdd_in hrest (goes_m h5) fun hgo => ?_
            obtain ⟨hr, hs⟩ := hgo
            exact ⟨v, hr, by rw [← hs]; exact hrest⟩
        ·
          rename_i hkd
          rw [hkd] at hknd
          have hdraw : ∀ (K' : Q), (match mets C.P L i 0 ops.toList with
              | false => gdd ops env1 o (stpQ C st0) fun v => drawOps C ops L (i + 1) r (putE o.dst v env1) p1 q1 K1
              | true => match o.guard with
                | some (j, want) => (match dstOf ops j with
                  | some t => gN (lk env1 t) want (mon (picks L i p1) (stpQ C st0)) fun v a b => drawOps C ops L (i + 1) r (putE o.dst v env1) p1 ((i, a, b) :: q1) K1
                  | none => fun _ => False)
                | none => mon (picks L i p1) (stpQ C st0) fun v a b => drawOps C ops L (i + 1) r (putE o.dst v env1) p1 ((i, a, b) :: q1) K1 : Q) m.s → drawOps C ops L i (o :: r) env1 p1 q1 K1 m.s := by
            intro _ hh
            rcases hknd with ⟨w, rfl⟩ | ⟨f, as, rfl⟩ <;> (simp only [drawOps, hst0]; exact hh)
          refine hdraw (K1 env1) ?_
          cases hme : mets C.P L i 0 ops.toList with
          | false =>
            rw [hme] at h
            obtain ⟨st, hst, v, m', env', h1, h2, h3, h4, h5⟩ := step_sound hm hE hg hx h
            rw [hst0] at hst; cases hst
            have hrest := draw2_sound hΦ hK r (i + 1) m' env' (putE o.dst v env1) (killP (klOf x) p2) p1 q2 q1 h2 h4 (hp.next h3) (hq.next hm h2 h3) (hΦ _ _ _ _ hF h3) h1
            exact stp_gdd (K1 := fun v => drawOps C ops L (i + 1) r (putE o.dst v env1) p1 q1 K1) hrest (goes_m h5)
          | true =>
            rw [hme] at h
            simp only at h
            split at h
            · rename_i hmon
              obtain ⟨st, hst, v, m', env', h1, h2, h3, h4, h5⟩ := step_sound hm hE hg hx h
              rw [hst0] at hst; cases hst
              have hrest : ∀ a b, a = m.s → b = m'.s → drawOps C ops L (i + 1) r (putE o.dst v env1) p1 ((i, a, b) :: q1) K1 m'.s := fun a b ha hb =>
                draw2_sound hΦ hK r (i + 1) m' env' (putE o.dst v env1) (killP (klOf x) p2) p1 ((i, idsOf ro m.ob (affOf x)) :: q2) ((i, a, b) :: q1) h2 h4 (hp.next h3) ⟨rfl, by rw [ha, hb]; exact pend_new hm h2 h3, hq.next hm h2 h3⟩ (hΦ _ _ _ _ hF h3) h1
              have hun : ∀ w ∈ picks L i p1, unch w m.s m'.s := fun w hw => by
                obtain ⟨e, he, hpr⟩ := hp.picks w hw
                exact mon_ok hm h3 hpr (List.all_eq_true.1 hmon e he)
              cases hgu : o.guard with
              | none =>
                rw [hgu] at h5
                exact stpQ_iff.2 ⟨v, m'.s, h5, hun, hrest m.s m'.s rfl rfl⟩
              | some jw =>
                obtain ⟨j, want⟩ := jw
                rw [hgu] at h5
                obtain ⟨t, ht, h5⟩ := h5
                simp only [ht]
                rcases h5 with ⟨k1, k2⟩ | ⟨k1, hv, hmm⟩
                · exact .inl ⟨k1, stpQ_iff.2 ⟨v, m'.s, k2, hun, hrest m.s m'.s rfl rfl⟩⟩
                · subst hv; subst hmm; exact .inr ⟨k1, hrest _ _ rfl rfl⟩
            · exact h.elim
end Go.Proofs.Ytmikdglafmfnfaa.Eng
