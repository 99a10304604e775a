/- The pure engine: what a text knows, and what lies in memory. -/
import Derived.Test.YtmikdglafmfnfaaEngPb
namespace Go.Proofs.Ytmikdglafmfnfaa.Eng
open Go Go.RowKit
set_option linter.unusedVariables false
set_option linter.unusedSimpArgs false
structure Asg where
  nil : Bool
  h : Nat
  b : Nat
  F : List Nat
structure Bas where
  s : St
  M : List Nat
/-- A state: memory, objects, where they lie. -/
structure Mst where
  s : St
  ob : Obs
  nk : Nat
  A : Nat → Asg
/-- A pointer or a slice. -/
def one : Value → Bool
  | .pointer _ => true
  | .slice _ _ _ => true
  | _ => false
def E0R (ro : List (List T)) (m : Mst) : E0 → Value → Prop
  | .v a, u => u = a ∧ plain a = true
  | .q a, u => u = a
  | .z, u => u = nl
  | .p k off, u => k < m.nk ∧ one u = true ∧ ∀ xs, look2 ro m.ob k = some (.bx xs) → u = pt (m.A k).h off
  | .e k pre off, u => k < m.nk ∧ one u = true ∧ ∀ own cs, look2 ro m.ob k = some (.ls own cs) → ∃ ds h b, node cs pre = some ds ∧ (m.A k).nil = false ∧ spot m.s (m.A k).h (m.A k).b pre = some (h, b) ∧ u = pt h (b + off)
  | .s k pre off n e, u => k < m.nk ∧ one u = true ∧ ∀ own cs, look2 ro m.ob k = some (.ls own cs) → (u = nl ∧ n = 0) ∨ ∃ ds h b, node cs pre = some ds ∧ off + n * e ≤ ds.length ∧ (m.A k).nil = false ∧ spot m.s (m.A k).h (m.A k).b pre = some (h, b) ∧ u = sl h (b + off) n e
  | .t k e, u => k < m.nk ∧ one u = true ∧ 0 < e ∧ ∀ own cs, look2 ro m.ob k = some (.ls own cs) → (u = nl ∧ (m.A k).nil = true) ∨ ∃ n, (m.A k).nil = false ∧ cs.length = n * e ∧ u = sl (m.A k).h (m.A k).b n e
  | .n k pre e, u => k < m.nk ∧ one u = true ∧ 0 < e ∧ ∀ own cs, look2 ro m.ob k = some (.ls own cs) → ∃ ds, node cs pre = some ds ∧ ((u = nl ∧ ds = []) ∨ ∃ n h b, (m.A k).nil = false ∧ spot m.s (m.A k).h (m.A k).b pre = some (h, b) ∧ ds.length = n * e ∧ u = sl h b n e)
  | .w, _ => True
def AllE (R : E0 → Value → Prop) : List E0 → List Value → Prop
  | [], [] => True
  | x :: xs, u :: us => R x u ∧ AllE R xs us
  | _, _ => False
def YR (R : E0 → Value → Prop) (y : Bool × List E0) (u : Value) : Prop := match y.1 with
  | true => ∃ us : List Value, u = .agg us.toArray ∧ AllE R y.2 us
  | false => ∃ x, y.2 = [x] ∧ R x u
def AllY (R : E0 → Value → Prop) : List (Bool × List E0) → List Value → Prop
  | [], [] => True
  | x :: xs, u :: us => YR R x u ∧ AllY R xs us
  | _, _ => False
def EVR (R : E0 → Value → Prop) : EV → Value → Prop
  | .o x, u => R x u
  | .g xs, u => ∃ us : List Value, u = .agg us.toArray ∧ AllE R xs us
  | .u ys, u => ∃ us : List Value, u = .tuple us.toArray ∧ AllY R ys us
def TagR (R : E0 → Value → Prop) (env1 : Env) (x : Option (Nat × Bool) × EV) (u : Value) : Prop := match x.1 with
  | none => EVR R x.2 u
  | some (g, w) => (lk env1 g = .bool w → EVR R (upg x.2) u) ∧ (∀ a, x.2 = .o (.q a) → u = a) ∧ (lk env1 g = .bool w ∨ u = undef)
def EnvR (ro : List (List T)) (m : Mst) (env : Env2) (env1 : Env) : Prop := ∀ t, TagR (E0R ro m) env1 (lkE env t) (lk env1 t)
def ObR (ro : List (List T)) (m : Mst) (k : Nat) : Ob2 → Prop
  | .ls own cs => ((m.A k).nil = true ∧ cs = [] ∧ (m.A k).F = []) ∨ ((m.A k).nil = false ∧ Win m.s own cs (m.A k).h (m.A k).b (m.A k).F)
  | .bx xs => (m.A k).F = [(m.A k).h] ∧ ∃ us, m.s.get (m.A k).h = some ⟨us, true⟩ ∧ AllE (E0R ro m) xs us
def isOwn : Ob2 → Bool
  | .bx _ => true
  | .ls o _ => o
structure KOk (ro : List (List T)) (ob : Obs) (nk : Nat) : Prop where
  nd : (ob.map (·.1)).Nodup
  lt : ∀ x ∈ ob, ro.length ≤ x.1 ∧ x.1 < nk
  ro : ro.length ≤ nk
structure Mem (B : Bas) (ro : List (List T)) (m : Mst) : Prop where
  kok : KOk ro m.ob m.nk
  obr : ∀ k o, look2 ro m.ob k = some o → ObR ro m k o
  own : ∀ k o, look2 ro m.ob k = some o → isOwn o = true → (m.A k).F.Nodup ∧ ∀ h ∈ (m.A k).F, h ∈ B.M ∨ B.s.n ≤ h
  dis : ∀ k k' o o', k ≠ k' → look2 ro m.ob k = some o → look2 ro m.ob k' = some o' → isOwn o = true → ∀ h ∈ (m.A k).F, h ∉ (m.A k').F
  frn : B.s.n ≤ m.s.n
  fr : ∀ h, h < B.s.n → h ∉ B.M → m.s.get h = B.s.get h
/-! ### Lists of objects -/
theorem rget_lt {ro : List (List T)} : ∀ {k : Nat} {o : Ob2}, rget ro k = some o → k < ro.length ∧ ∃ cs, o = .ls false cs := by
  induction ro with
  | nil => intro k o h; simp [rget] at h
  | cons c r ih =>
    intro k o h
    cases k with
    | zero => simp only [rget, Option.some.injEq] at h; exact ⟨by simp, c, h.symm⟩
    | succ k => simp only [rget] at h; have := ih h; exact ⟨by simp; exact this.1, this.2⟩
theorem lookO_mem : ∀ {ob : Obs} {k : Nat} {o : Ob2}, lookO ob k = some o → (k, o) ∈ ob
  | [], k, o, h => by simp [lookO] at h
  | (a, x) :: r, k, o, h => by
    simp only [lookO] at h
    split at h
    · rename_i hb; have := Nat.eq_of_beq_eq_true hb; subst this; cases h; simp
    · exact List.mem_cons_of_mem _ (lookO_mem h)
theorem lookO_none {ob : Obs} {k : Nat} (h : ∀ x ∈ ob, x.1 ≠ k) : lookO ob k = none := by
  cases hl : lookO ob k with
  | none => rfl
  | some o => exact absurd rfl (h _ (lookO_mem hl))
theorem look2_lt {ro : List (List T)} {ob : Obs} {nk k : Nat} {o : Ob2} (hk : KOk ro ob nk) (h : look2 ro ob k = some o) : k < nk := by
  unfold look2 at h
  split at h
  · rename_i hl; exact (hk.lt _ (lookO_mem hl)).2
  · exact Nat.lt_of_lt_of_le (rget_lt h).1 hk.ro
theorem look2_own {ro : List (List T)} {ob : Obs} {k : Nat} {o : Ob2} (h : lookO ob k = some o) : look2 ro ob k = some o := by simp [look2, h]
theorem look2_isOwn {ro : List (List T)} {ob : Obs} {k : Nat} {o : Ob2} (h : look2 ro ob k = some o) (ho : isOwn o = true) : lookO ob k = some o := by
  unfold look2 at h
  split at h
  · rename_i hl; rw [hl]; exact h
  · obtain ⟨_, cs, rfl⟩ := rget_lt h; cases ho
theorem look2_ro {ro : List (List T)} {ob : Obs} {nk k : Nat} (hk : KOk ro ob nk) (h : k < ro.length) : look2 ro ob k = rget ro k := by
  unfold look2
  rw [lookO_none fun x hx => by have := (hk.lt x hx).1; omega]
theorem lookO_cons {ob : Obs} {a k : Nat} {o : Ob2} : lookO ((a, o) :: ob) k = if a = k then some o else lookO ob k := by
  simp only [lookO]
  split
  · rename_i hb; rw [if_pos (Nat.eq_of_beq_eq_true hb)]
  · rename_i hb; rw [if_neg]; intro h; subst h; simp at hb
theorem look2_cons {ro : List (List T)} {ob : Obs} {a k : Nat} {o : Ob2} : look2 ro ((a, o) :: ob) k = if a = k then some o else look2 ro ob k := by
  unfold look2; rw [lookO_cons]
  by_cases h : a = k
  · simp [h]
  · simp [h]
theorem lookO_set : ∀ {ob : Obs} {k k' : Nat} {o : Ob2}, lookO (setO ob k o) k' = if k = k' then (lookO ob k).map (fun _ => o) else lookO ob k'
  | [], k, k', o => by simp [setO, lookO]
  | (a, x) :: r, k, k', o => by
    simp only [setO]
    split
    · rename_i hb
      have := Nat.eq_of_beq_eq_true hb; subst this
      rw [lookO_cons, lookO_cons, lookO_cons]; by_cases h : a = k' <;> simp [h]
    · rename_i hb
      have hne : a ≠ k := fun h => by subst h; simp at hb
      rw [lookO_cons, lookO_cons, lookO_cons, lookO_set]
      by_cases h : a = k'
      · subst h; simp [Ne.symm hne]
      · simp [h, hne]
theorem set_keys : ∀ {ob : Obs} {k : Nat} {o : Ob2}, (setO ob k o).map (·.1) = ob.map (·.1)
  | [], k, o => rfl
  | (a, x) :: r, k, o => by
    simp only [setO]
    split
    · rfl
    · simp [set_keys]
theorem lookO_del_ne : ∀ {ob : Obs} {k k' : Nat}, k ≠ k' → lookO (delO ob k) k' = lookO ob k'
  | [], k, k', h => rfl
  | (a, x) :: r, k, k', h => by
    simp only [delO]
    split
    · rename_i hb
      have := Nat.eq_of_beq_eq_true hb; subst this
      rw [lookO_cons, if_neg h]
    · rw [lookO_cons, lookO_cons, lookO_del_ne h]
theorem del_sub : ∀ {ob : Obs} {k : Nat}, (delO ob k).Sublist ob
  | [], k => List.Sublist.refl _
  | (a, x) :: r, k => by
    simp only [delO]
    split
    · exact List.sublist_cons_self _ _
    · exact List.Sublist.cons_cons _ del_sub
theorem lookO_del : ∀ {ob : Obs} {k : Nat}, (ob.map (·.1)).Nodup → lookO (delO ob k) k = none
  | [], k, h => rfl
  | (a, x) :: r, k, h => by
    simp only [List.map_cons, List.nodup_cons] at h
    simp only [delO]
    split
    · rename_i hb
      have := Nat.eq_of_beq_eq_true hb; subst this
      exact lookO_none fun y hy he => h.1 (List.mem_map.2 ⟨y, hy, he⟩)
    · rename_i hb
      have hne : a ≠ k := fun h => by subst h; simp at hb
      rw [lookO_cons, if_neg hne, lookO_del h.2]
theorem KOk.del {ro : List (List T)} {ob : Obs} {nk k : Nat} (h : KOk ro ob nk) : KOk ro (delO ob k) nk :=
  ⟨(del_sub.map _).nodup h.nd, fun x hx => h.lt x (del_sub.subset hx), h.ro⟩
theorem KOk.set {ro : List (List T)} {ob : Obs} {nk k : Nat} {o : Ob2} (h : KOk ro ob nk) : KOk ro (setO ob k o) nk := by
  refine ⟨by rw [set_keys]; exact h.nd, fun x hx => ?_, h.ro⟩
  have : x.1 ∈ (setO ob k o).map (·.1) := List.mem_map.2 ⟨x, hx, rfl⟩
  rw [set_keys] at this
  obtain ⟨y, hy, he⟩ := List.mem_map.1 this
  rw [← he]; exact h.lt y hy
theorem KOk.cons {ro : List (List T)} {ob : Obs} {nk : Nat} {o : Ob2} (h : KOk ro ob nk) : KOk ro ((nk, o) :: ob) (nk + 1) := by
  refine ⟨?_, fun x hx => ?_, by have := h.ro; omega⟩
  · simp only [List.map_cons, List.nodup_cons]
    exact ⟨fun hm => by obtain ⟨y, hy, he⟩ := List.mem_map.1 hm; have := (h.lt y hy).2; omega, h.nd⟩
  · rcases List.mem_cons.1 hx with rfl | hx
    · exact ⟨h.ro, by simp⟩
    · have := h.lt x hx; exact ⟨this.1, by omega⟩
theorem KOk.le {ro : List (List T)} {ob : Obs} {nk nk' : Nat} (h : KOk ro ob nk) (hle : nk ≤ nk') : KOk ro ob nk' := ⟨h.nd, fun x hx => ⟨(h.lt x hx).1, Nat.lt_of_lt_of_le (h.lt x hx).2 hle⟩, Nat.le_trans h.ro hle⟩
def killB (kl : List Nat) : Ob2 → Ob2
  | .bx xs => .bx (xs.map (killE kl))
  | o => o
theorem lookO_kill {kl : List Nat} : ∀ {ob : Obs} {k : Nat}, lookO (killO kl ob) k = (lookO ob k).map (killB kl)
  | [], k => rfl
  | (a, .bx xs) :: r, k => by
    simp only [killO]; rw [lookO_cons, lookO_cons, lookO_kill]
    by_cases h : a = k <;> simp [h, killB]
  | (a, .ls o cs) :: r, k => by
    simp only [killO]; rw [lookO_cons, lookO_cons, lookO_kill]
    by_cases h : a = k <;> simp [h, killB]
theorem kill_keys {kl : List Nat} : ∀ {ob : Obs}, (killO kl ob).map (·.1) = ob.map (·.1)
  | [] => rfl
  | (a, .bx xs) :: r => by simp [killO, kill_keys]
  | (a, .ls o cs) :: r => by simp [killO, kill_keys]
theorem look2_kill {ro : List (List T)} {kl : List Nat} {ob : Obs} {k : Nat} : look2 ro (killO kl ob) k = (look2 ro ob k).map (killB kl) := by
  unfold look2
  rw [lookO_kill]
  cases h : lookO ob k with
  | some o => rfl
  | none =>
    cases h2 : rget ro k with
    | none => simp [h2]
    | some o => obtain ⟨_, cs, rfl⟩ := rget_lt h2; simp [h2, killB]
theorem KOk.kill {ro : List (List T)} {ob : Obs} {nk : Nat} {kl : List Nat} (h : KOk ro ob nk) : KOk ro (killO kl ob) nk := by
  refine ⟨by rw [kill_keys]; exact h.nd, fun x hx => ?_, h.ro⟩
  have : x.1 ∈ (killO kl ob).map (·.1) := List.mem_map.2 ⟨x, hx, rfl⟩
  rw [kill_keys] at this
  obtain ⟨y, hy, he⟩ := List.mem_map.1 this
  rw [← he]; exact h.lt y hy
/-! ### What is known stays known -/
/-- What a reference to k says of m it says of m', but for ways into it. -/
def Kp0 (ro : List (List T)) (m m' : Mst) (k : Nat) : Prop := ∀ o', look2 ro m'.ob k = some o' → match o' with
  | .bx _ => (∃ xs, look2 ro m.ob k = some (.bx xs)) ∧ (m'.A k).h = (m.A k).h
  | .ls _ cs' => ∃ own cs, look2 ro m.ob k = some (.ls own cs) ∧ cs'.length = cs.length ∧ (m'.A k).nil = (m.A k).nil ∧ (m'.A k).h = (m.A k).h ∧ (m'.A k).b = (m.A k).b
def Deep (ro : List (List T)) (m m' : Mst) (k : Nat) : Prop := ∀ own cs own' cs', look2 ro m.ob k = some (.ls own cs) → look2 ro m'.ob k = some (.ls own' cs') →
    (∀ pre ds, node cs pre = some ds → ∃ ds', node cs' pre = some ds' ∧ ds'.length = ds.length) ∧
    ((m.A k).nil = false → ∀ pre ds hb, node cs pre = some ds → spot m.s (m.A k).h (m.A k).b pre = some hb → spot m'.s (m.A k).h (m.A k).b pre = some hb)
structure Kp (ro : List (List T)) (m m' : Mst) (kl : List Nat) : Prop where
  nk : m.nk ≤ m'.nk
  k0 : ∀ k, k < m.nk → Kp0 ro m m' k
  dp : ∀ k, k < m.nk → kl.any (Nat.beq k) = false → Deep ro m m' k
theorem Kp.flat {ro : List (List T)} {m m' : Mst} {kl : List Nat} (h : Kp ro m m' kl) {k off n e : Nat} {u : Value} (hr : E0R ro m (.s k [] off n e) u) : E0R ro m' (.s k [] off n e) u := by
  obtain ⟨hlt, hone, hr⟩ := hr
  refine ⟨Nat.lt_of_lt_of_le hlt h.nk, hone, fun own' cs' hl' => ?_⟩
  obtain ⟨own, cs, hl, he, h1, h2, h3⟩ := h.k0 k hlt _ hl'
  rcases hr own cs hl with hr | ⟨ds, x, b, k1, k2, k3, k4, rfl⟩
  · exact .inl hr
  · simp only [node, Option.some.injEq] at k1
    subst k1
    simp only [spot, Option.some.injEq, Prod.mk.injEq] at k4
    obtain ⟨rfl, rfl⟩ := k4
    exact .inr ⟨cs', _, _, rfl, by omega, by rw [h1, k3], rfl, by rw [h2, h3]⟩
theorem Kp.e0 {ro : List (List T)} {m m' : Mst} {kl : List Nat} (h : Kp ro m m' kl) {x : E0} {u : Value} (hr : E0R ro m x u) : E0R ro m' (killE kl x) u := by
  cases x with
  | v a => exact hr
  | q a => exact hr
  | z => exact hr
  | w => trivial
  | p k off =>
    obtain ⟨hlt, hone, hr⟩ := hr
    refine ⟨Nat.lt_of_lt_of_le hlt h.nk, hone, fun xs hl' => ?_⟩
    obtain ⟨⟨ys, hl⟩, he⟩ := h.k0 k hlt _ hl'
    rw [he]; exact hr ys hl
  | t k e =>
    obtain ⟨hlt, hone, hpos, hr⟩ := hr
    refine ⟨Nat.lt_of_lt_of_le hlt h.nk, hone, hpos, fun own' cs' hl' => ?_⟩
    obtain ⟨own, cs, hl, he, h1, h2, h3⟩ := h.k0 k hlt _ hl'
    rw [h1, h2, h3, he]; exact hr own cs hl
  | s k pre off n e =>
    cases pre with
    | nil => exact h.flat hr
    | cons i r =>
      simp only [killE]
      cases ha : kl.any (Nat.beq k) with
      | true => trivial
      | false =>
        obtain ⟨hlt, hone, hr⟩ := hr
        refine ⟨Nat.lt_of_lt_of_le hlt h.nk, hone, fun own' cs' hl' => ?_⟩
        obtain ⟨own, cs, hl, he, h1, h2, h3⟩ := h.k0 k hlt _ hl'
        rcases hr own cs hl with hr | ⟨ds, x, b, k1, k2, k3, k4, rfl⟩
        · exact .inl hr
        · obtain ⟨k8, k9⟩ := h.dp k hlt ha own cs own' cs' hl hl'
          obtain ⟨ds', k5, k6⟩ := k8 _ _ k1
          have k7 := k9 k3 _ _ _ k1 k4
          exact .inr ⟨ds', x, b, k5, by omega, by rw [h1, k3], by rw [h2, h3]; exact k7, rfl⟩
  | e k pre off =>
    cases pre with
    | nil =>
      obtain ⟨hlt, hone, hr⟩ := hr
      refine ⟨Nat.lt_of_lt_of_le hlt h.nk, hone, fun own' cs' hl' => ?_⟩
      obtain ⟨own, cs, hl, he, h1, h2, h3⟩ := h.k0 k hlt _ hl'
      obtain ⟨ds, x, b, k1, k3, k4, rfl⟩ := hr own cs hl
      simp only [spot, Option.some.injEq, Prod.mk.injEq] at k4
      obtain ⟨rfl, rfl⟩ := k4
      exact ⟨cs', _, _, rfl, by rw [h1, k3], rfl, by rw [h2, h3]⟩
    | cons i r =>
      simp only [killE]
      cases ha : kl.any (Nat.beq k) with
      | true => trivial
      | false =>
        obtain ⟨hlt, hone, hr⟩ := hr
        refine ⟨Nat.lt_of_lt_of_le hlt h.nk, hone, fun own' cs' hl' => ?_⟩
        obtain ⟨own, cs, hl, he, h1, h2, h3⟩ := h.k0 k hlt _ hl'
        obtain ⟨ds, x, b, k1, k3, k4, rfl⟩ := hr own cs hl
        obtain ⟨k8, k9⟩ := h.dp k hlt ha own cs own' cs' hl hl'
        obtain ⟨ds', k5, k6⟩ := k8 _ _ k1
        have k7 := k9 k3 _ _ _ k1 k4
        exact ⟨ds', x, b, k5, by rw [h1, k3], by rw [h2, h3]; exact k7, rfl⟩
  | n k pre e =>
    cases pre with
    | nil =>
      obtain ⟨hlt, hone, hpos, hr⟩ := hr
      refine ⟨Nat.lt_of_lt_of_le hlt h.nk, hone, hpos, fun own' cs' hl' => ?_⟩
      obtain ⟨own, cs, hl, he, h1, h2, h3⟩ := h.k0 k hlt _ hl'
      obtain ⟨ds, k1, hr⟩ := hr own cs hl
      simp only [node, Option.some.injEq] at k1
      subst k1
      refine ⟨cs', rfl, ?_⟩
      rcases hr with ⟨k2, k3⟩ | ⟨n, x, b, k3, k4, k5, rfl⟩
      · left
        subst k3
        exact ⟨k2, List.eq_nil_of_length_eq_zero (by rw [he]; rfl)⟩
      · simp only [spot, Option.some.injEq, Prod.mk.injEq] at k4
        obtain ⟨rfl, rfl⟩ := k4
        exact .inr ⟨n, _, _, by rw [h1, k3], rfl, by rw [he, k5], by rw [h2, h3]⟩
    | cons i r =>
      simp only [killE]
      cases ha : kl.any (Nat.beq k) with
      | true => trivial
      | false =>
        obtain ⟨hlt, hone, hpos, hr⟩ := hr
        refine ⟨Nat.lt_of_lt_of_le hlt h.nk, hone, hpos, fun own' cs' hl' => ?_⟩
        obtain ⟨own, cs, hl, he, h1, h2, h3⟩ := h.k0 k hlt _ hl'
        obtain ⟨ds, k1, hr⟩ := hr own cs hl
        obtain ⟨k8, k9⟩ := h.dp k hlt ha own cs own' cs' hl hl'
        obtain ⟨ds', k5, k6⟩ := k8 _ _ k1
        refine ⟨ds', k5, ?_⟩
        rcases hr with ⟨k2, k3⟩ | ⟨n, x, b, k3, k4, k10, rfl⟩
        · left
          subst k3
          exact ⟨k2, List.eq_nil_of_length_eq_zero (by rw [k6]; rfl)⟩
        · have k7 := k9 k3 _ _ _ k1 k4
          exact .inr ⟨n, x, b, by rw [h1, k3], by rw [h2, h3]; exact k7, by rw [k6, k10], rfl⟩
theorem AllE_map {R R' : E0 → Value → Prop} {f : E0 → E0} (h : ∀ x u, R x u → R' (f x) u) : ∀ {xs : List E0} {us : List Value}, AllE R xs us → AllE R' (xs.map f) us
  | [], [], _ => trivial
  | x :: xs, u :: us, hr => ⟨h x u hr.1, AllE_map h hr.2⟩
  | [], _ :: _, hr => hr.elim
  | _ :: _, [], hr => hr.elim
theorem AllE_len {R : E0 → Value → Prop} : ∀ {xs : List E0} {us : List Value}, AllE R xs us → us.length = xs.length
  | [], [], _ => rfl
  | x :: xs, u :: us, hr => by simp [AllE_len hr.2]
  | [], _ :: _, hr => hr.elim
  | _ :: _, [], hr => hr.elim
theorem AllE_app {R : E0 → Value → Prop} : ∀ {xs ys : List E0} {us vs : List Value}, AllE R xs us → AllE R ys vs → AllE R (xs ++ ys) (us ++ vs)
  | [], ys, [], vs, _, h => h
  | x :: xs, ys, u :: us, vs, h, h2 => ⟨h.1, AllE_app h.2 h2⟩
  | [], _, _ :: _, _, hr, _ => hr.elim
  | _ :: _, _, [], _, hr, _ => hr.elim
theorem AllE_take {R : E0 → Value → Prop} : ∀ {xs : List E0} {us : List Value} (n : Nat), AllE R xs us → AllE R (xs.take n) (us.take n)
  | [], [], n, _ => by simp [AllE]
  | x :: xs, u :: us, 0, h => trivial
  | x :: xs, u :: us, n + 1, h => ⟨h.1, AllE_take n h.2⟩
  | [], _ :: _, _, hr => hr.elim
  | _ :: _, [], _, hr => hr.elim
theorem AllE_drop {R : E0 → Value → Prop} : ∀ {xs : List E0} {us : List Value} (n : Nat), AllE R xs us → AllE R (xs.drop n) (us.drop n)
  | [], [], n, _ => by simp [AllE]
  | x :: xs, u :: us, 0, h => h
  | x :: xs, u :: us, n + 1, h => AllE_drop n h.2
  | [], _ :: _, _, hr => hr.elim
  | _ :: _, [], _, hr => hr.elim
theorem AllY_map {R R' : E0 → Value → Prop} {f : E0 → E0} (h : ∀ x u, R x u → R' (f x) u) : ∀ {xs : List (Bool × List E0)} {us : List Value}, AllY R xs us → AllY R' (xs.map fun y => (y.1, y.2.map f)) us
  | [], [], _ => trivial
  | x :: xs, u :: us, hr => by
    refine ⟨?_, AllY_map h hr.2⟩
    have h1 := hr.1
    unfold YR at h1 ⊢
    cases hb : x.1 with
    | true => rw [hb] at h1; obtain ⟨vs, hv, ha⟩ := h1; exact ⟨vs, hv, AllE_map h ha⟩
    | false => rw [hb] at h1; obtain ⟨y, hy, ha⟩ := h1; exact ⟨f y, by simp [hy], h _ _ ha⟩
  | [], _ :: _, hr => hr.elim
  | _ :: _, [], hr => hr.elim
theorem Kp.ev {ro : List (List T)} {m m' : Mst} {kl : List Nat} (h : Kp ro m m' kl) {x : EV} {u : Value} (hr : EVR (E0R ro m) x u) : EVR (E0R ro m') (killV kl x) u := by
  cases x with
  | o x => exact h.e0 hr
  | g xs => obtain ⟨us, hu, ha⟩ := hr; exact ⟨us, hu, AllE_map (f := killE kl) (fun x u hx => h.e0 hx) ha⟩
  | u ys => obtain ⟨us, hu, ha⟩ := hr; exact ⟨us, hu, AllY_map (f := killE kl) (fun x u hx => h.e0 hx) ha⟩
theorem kill_upg {kl : List Nat} {x : EV} : upg (killV kl x) = killV kl (upg x) := by
  cases x with
  | o x =>
    cases x <;> try rfl
    · rename_i k pre off
      cases pre with
      | nil => rfl
      | cons i r => simp only [killV, killE, upg]; cases kl.any (Nat.beq k) <;> rfl
    · rename_i k pre off n e
      cases pre with
      | nil => rfl
      | cons i r => simp only [killV, killE, upg]; cases kl.any (Nat.beq k) <;> rfl
    · rename_i k pre e
      cases pre with
      | nil => rfl
      | cons i r => simp only [killV, killE, upg]; cases kl.any (Nat.beq k) <;> rfl
  | g xs => rfl
  | u ys => rfl
theorem kill_q {kl : List Nat} {x : EV} {a : Value} (h : killV kl x = .o (.q a)) : x = .o (.q a) := by
  cases x with
  | o x =>
    cases x <;> simp only [killV, killE, EV.o.injEq, E0.q.injEq, reduceCtorEq] at h
    · rw [h]
    · rename_i k pre off
      cases pre with
      | nil => simp [killE] at h
      | cons i r => simp only [killE] at h; cases ha : kl.any (Nat.beq k) <;> rw [ha] at h <;> simp at h
    · rename_i k pre off n e
      cases pre with
      | nil => simp [killE] at h
      | cons i r => simp only [killE] at h; cases ha : kl.any (Nat.beq k) <;> rw [ha] at h <;> simp at h
    · rename_i k pre e
      cases pre with
      | nil => simp [killE] at h
      | cons i r => simp only [killE] at h; cases ha : kl.any (Nat.beq k) <;> rw [ha] at h <;> simp at h
  | g xs => simp [killV] at h
  | u ys => simp [killV] at h
theorem killE_nil {x : E0} : killE [] x = x := by
  cases x <;> try rfl
  · rename_i k pre off; cases pre <;> rfl
  · rename_i k pre off n e; cases pre <;> rfl
  · rename_i k pre e; cases pre <;> rfl
theorem killV_nil {x : EV} : killV [] x = x := by
  have hf : killE [] = id := funext fun _ => killE_nil
  cases x with
  | o x => simp [killV, killE_nil]
  | g xs => simp [killV, hf]
  | u ys => simp [killV, hf]
theorem lkE_kill {kl : List Nat} : ∀ {env : Env2} {t : Nat}, lkE (killEnv kl env) t = ((lkE env t).1, killV kl (lkE env t).2) := by
  intro env t
  cases kl with
  | nil => simp [killEnv, killV_nil]
  | cons a l =>
    simp only [killEnv]
    induction env with
    | nil => rfl
    | cons x r ih =>
      obtain ⟨d, tg, e⟩ := x
      simp only [List.map_cons, lkE]
      cases hb : Nat.beq d t with
      | true => rfl
      | false => exact ih
theorem Kp.env {ro : List (List T)} {m m' : Mst} {kl : List Nat} (h : Kp ro m m' kl) {env : Env2} {env1 : Env} (hr : EnvR ro m env env1) : EnvR ro m' (killEnv kl env) env1 := by
  intro t
  have := hr t
  rw [lkE_kill]
  unfold TagR at this ⊢
  cases hx : (lkE env t).1 with
  | none => rw [hx] at this; exact h.ev this
  | some gw =>
    obtain ⟨g, w⟩ := gw
    rw [hx] at this
    exact ⟨fun hg => by rw [kill_upg]; exact h.ev (this.1 hg), fun a ha => this.2.1 a (kill_q ha), this.2.2⟩
/-! ### A step -/
theorem ObR.lt {ro : List (List T)} {m : Mst} {k : Nat} {o : Ob2} (h : ObR ro m k o) : ∀ x ∈ (m.A k).F, x < m.s.n := by
  cases o with
  | ls own cs =>
    rcases h with ⟨_, _, h⟩ | ⟨_, h⟩
    · rw [h]; simp
    · exact h.lt
  | bx xs =>
    obtain ⟨hF, us, hg, _⟩ := h
    rw [hF]
    intro x hx
    rw [List.mem_singleton.1 hx]; exact St.get_lt hg
/-- U: the objects that stay as they are. -/
structure Step (B : Bas) (ro : List (List T)) (m m' : Mst) (kl : List Nat) (U : Nat → Prop) : Prop where
  n : m.s.n ≤ m'.s.n
  nk : m.nk ≤ m'.nk
  kok : KOk ro m'.ob m'.nk
  u : ∀ k, U k → ∃ o, look2 ro m.ob k = some o ∧ look2 ro m'.ob k = some (killB kl o) ∧ m'.A k = m.A k
  fr : ∀ h, h < m.s.n → (∀ k o, look2 ro m.ob k = some o → ¬ U k → isOwn o = true → h ∉ (m.A k).F) → m'.s.get h = m.s.get h
  /-- the others -/
  k0 : ∀ k, k < m.nk → ¬ U k → Kp0 ro m m' k
  dp : ∀ k, k < m.nk → ¬ U k → kl.any (Nat.beq k) = false → Deep ro m m' k
  own : ∀ k o', look2 ro m'.ob k = some o' → ¬ U k → (m'.A k).F.Nodup ∧ ∀ h ∈ (m'.A k).F, (∃ k1 o1, look2 ro m.ob k1 = some o1 ∧ ¬ U k1 ∧ isOwn o1 = true ∧ h ∈ (m.A k1).F) ∨ m.s.n ≤ h
  dis : ∀ k k' o o', k ≠ k' → look2 ro m'.ob k = some o → look2 ro m'.ob k' = some o' → ¬ U k → ¬ U k' → ∀ h ∈ (m'.A k).F, h ∉ (m'.A k').F
theorem Step.same {B : Bas} {ro : List (List T)} {m m' : Mst} {kl : List Nat} {U : Nat → Prop} (h : Step B ro m m' kl U) (hm : Mem B ro m) {k : Nat} (hk : U k) : ∀ x ∈ (m.A k).F, m'.s.get x = m.s.get x := by
  intro x hx
  obtain ⟨o, h1, _⟩ := h.u k hk
  refine h.fr x ((hm.obr k o h1).lt x hx) fun k1 o1 k2 k3 k4 hx' => ?_
  have hne : k1 ≠ k := fun he => k3 (he ▸ hk)
  exact hm.dis k1 k o1 o hne k2 h1 k4 x hx' hx
theorem Step.kp {B : Bas} {ro : List (List T)} {m m' : Mst} {kl : List Nat} {U : Nat → Prop} (h : Step B ro m m' kl U) (hm : Mem B ro m) : Kp ro m m' kl := by
  refine ⟨h.nk, fun k hk => ?_, fun k hk ha => ?_⟩
  · by_cases hu : U k
    · obtain ⟨o, h1, h2, h3⟩ := h.u k hu
      intro o' ho'
      rw [h2] at ho'; cases ho'
      cases o with
      | bx xs => exact ⟨⟨xs, h1⟩, by rw [h3]⟩
      | ls own cs => exact ⟨own, cs, h1, rfl, by rw [h3], by rw [h3], by rw [h3]⟩
    · exact h.k0 k hk hu
  · by_cases hu : U k
    · intro own cs own' cs' hl hl'
      obtain ⟨o, h1, h2, h3⟩ := h.u k hu
      rw [hl] at h1; cases h1
      rw [hl'] at h2; cases h2
      refine ⟨fun pre ds hn => ⟨ds, hn, rfl⟩, fun hnil pre ds hb hn hs => ?_⟩
      rcases hm.obr k _ hl with ⟨h4, _⟩ | ⟨_, hw⟩
      · rw [hnil] at h4; cases h4
      · rw [spot_frame hw (h.same hm hu) (by rw [hn]; rfl)]; exact hs
    · exact h.dp k hk hu ha
theorem Step.mem {B : Bas} {ro : List (List T)} {m m' : Mst} {kl : List Nat} {U : Nat → Prop} (h : Step B ro m m' kl U) (hm : Mem B ro m) (hob : ∀ k o', look2 ro m'.ob k = some o' → ¬ U k → ObR ro m' k o') : Mem B ro m' := by
  have hkp := h.kp hm
  have hBm : ∀ k o, look2 ro m.ob k = some o → isOwn o = true → ∀ x ∈ (m.A k).F, x ∈ B.M ∨ B.s.n ≤ x := fun k o h1 h2 => (hm.own k o h1 h2).2
  have ownB : ∀ (o : Ob2), isOwn (killB kl o) = isOwn o := fun o => by cases o <;> rfl
  refine ⟨h.kok, fun k o' ho' => ?_, fun k o' ho' how => ?_, fun k k' o o' hne ho ho' how x hx hx' => ?_, Nat.le_trans hm.frn h.n, fun x hx hM => ?_⟩
  · by_cases hu : U k
    · obtain ⟨o, h1, h2, h3⟩ := h.u k hu
      rw [h2] at ho'; cases ho'
      have hs := h.same hm hu
      have ho := hm.obr k o h1
      cases o with
      | ls own cs =>
        rcases ho with ⟨a, b, c⟩ | ⟨a, b⟩
        · exact .inl ⟨by rw [h3, a], b, by rw [h3, c]⟩
        · exact .inr ⟨by rw [h3, a], by rw [h3]; exact b.frame hs⟩
      | bx xs =>
        obtain ⟨hF, us, hg, ha⟩ := ho
        exact ⟨by rw [h3, hF], us, by rw [h3, hs _ (by rw [hF]; simp)]; exact hg, AllE_map (f := killE kl) (fun x u hx => hkp.e0 hx) ha⟩
    · exact hob k o' ho' hu
  · by_cases hu : U k
    · obtain ⟨o, h1, h2, h3⟩ := h.u k hu
      rw [h2] at ho'; cases ho'
      rw [h3]; exact hm.own k o h1 (by rw [← ownB]; exact how)
    · refine ⟨(h.own k o' ho' hu).1, fun x hx => ?_⟩
      rcases (h.own k o' ho' hu).2 x hx with ⟨k1, o1, a, b, c, d⟩ | hge
      · exact hBm k1 o1 a c x d
      · right; have := hm.frn; omega
  · by_cases hu : U k
    · obtain ⟨o1, h1, h2, h3⟩ := h.u k hu
      rw [h2] at ho; cases ho
      rw [h3] at hx
      by_cases hu' : U k'
      · obtain ⟨o2, g1, g2, g3⟩ := h.u k' hu'
        rw [g3] at hx'
        exact hm.dis k k' o1 o2 hne h1 g1 (by rw [← ownB]; exact how) x hx hx'
      · rcases (h.own k' o' ho' hu').2 x hx' with ⟨k2, o2, a, b, c, d⟩ | hge
        · exact hm.dis k k2 o1 o2 (fun he => b (he ▸ hu)) h1 a (by rw [← ownB]; exact how) x hx d
        · have := (hm.obr k o1 h1).lt x hx; omega
    · by_cases hu' : U k'
      · obtain ⟨o2, g1, g2, g3⟩ := h.u k' hu'
        rw [g3] at hx'
        rcases (h.own k o ho hu).2 x hx with ⟨k2, o3, a, b, c, d⟩ | hge
        · exact hm.dis k2 k' o3 o2 (fun he => b (he ▸ hu')) a g1 c x d hx'
        · have := (hm.obr k' o2 g1).lt x hx'; omega
      · exact h.dis k k' o o' hne ho ho' hu hu' x hx hx'
  · rw [h.fr x (by have := hm.frn; omega) fun k o a b c d => ?_]
    · exact hm.fr x hx hM
    · rcases hBm k o a c x d with h1 | h1
      · exact hM h1
      · omega
end Go.Proofs.Ytmikdglafmfnfaa.Eng
