/- The engine's truth, first part: values alone. -/
import Derived.Test.YtmikdglafmfnfaaEng
import Derived.Laws.Concat
namespace Go.Proofs.Ytmikdglafmfnfaa.Eng
open Go Go.RowKit
set_option linter.unusedVariables false
set_option linter.unusedSimpArgs false
theorem Sub.refl (ρ : Rho) : Sub ρ ρ := fun _ _ h => h
theorem Sub.trans {a b c : Rho} (h : Sub a b) (k : Sub b c) : Sub a c := fun x p hp => k x p (h x p hp)
theorem CR_mono {ρ ρ' : Rho} (hs : Sub ρ ρ') {v u : Value} (h : CR ρ v u) : CR ρ' v u := by
  unfold CR at h
  split at h <;> first
    | exact h.elim
    | (subst h; rfl)
    | (obtain ⟨p, hp, rfl⟩ := h; exact ⟨p, hs _ _ hp, rfl⟩)
    | (obtain ⟨p, a, c, hp, r⟩ := h; exact ⟨p, a, c, hs _ _ hp, r⟩)
    | exact h
theorem All2_mono {R R' : Value → Value → Prop} (hr : ∀ x y, R x y → R' x y) : ∀ {l m : List Value}, All2 R l m → All2 R' l m
  | [], [], _ => trivial
  | x :: xs, y :: ys, h => ⟨hr _ _ h.1, All2_mono hr h.2⟩
  | [], _ :: _, h => h.elim
  | _ :: _, [], h => h.elim
theorem V2_mono {ρ ρ' : Rho} (hs : Sub ρ ρ') {v u : Value} (h : V2 ρ v u) : V2 ρ' v u := by
  cases v with
  | nilFunc => trivial
  | agg cs => obtain ⟨ds, rfl, h⟩ := h; exact ⟨ds, rfl, All2_mono (fun _ _ => CR_mono hs) h⟩
  | tuple vs => exact h.elim
  | _ => simp only [V2] at h ⊢; exact CR_mono hs h
theorem VR_mono {ρ ρ' : Rho} (hs : Sub ρ ρ') {v u : Value} (h : VR ρ v u) : VR ρ' v u := by
  cases v with
  | tuple cs => obtain ⟨ds, rfl, h⟩ := h; exact ⟨ds, rfl, All2_mono (fun _ _ => V2_mono hs) h⟩
  | _ => simp only [VR] at h ⊢; exact V2_mono hs h
theorem All2_length {R : Value → Value → Prop} : ∀ {l m : List Value}, All2 R l m → l.length = m.length
  | [], [], _ => rfl
  | x :: xs, y :: ys, h => by simp [All2_length h.2]
  | [], _ :: _, h => h.elim
  | _ :: _, [], h => h.elim
theorem All2_get {R : Value → Value → Prop} : ∀ {l m : List Value} (i : Nat) (x : Value), All2 R l m → l[i]? = some x → ∃ y, m[i]? = some y ∧ R x y
  | [], [], i, x, _, h => by simp at h
  | a :: l, b :: m, 0, x, h, hx => by simp at hx; subst hx; exact ⟨b, rfl, h.1⟩
  | a :: l, b :: m, i + 1, x, h, hx => by simp at hx ⊢; exact All2_get i x h.2 hx
  | [], _ :: _, _, _, h, _ => h.elim
  | _ :: _, [], _, _, h, _ => h.elim
theorem All2_of {R : Value → Value → Prop} : ∀ {l m : List Value}, l.length = m.length → (∀ (i : Nat) x y, l[i]? = some x → m[i]? = some y → R x y) → All2 R l m
  | [], [], _, _ => trivial
  | a :: l, b :: m, hl, h => ⟨h 0 a b rfl rfl, All2_of (by simpa using hl) fun i x y hx hy => h (i + 1) x y (by simpa using hx) (by simpa using hy)⟩
  | [], _ :: _, hl, _ => by simp at hl
  | _ :: _, [], hl, _ => by simp at hl
theorem All2_append {R : Value → Value → Prop} : ∀ {l m l' m' : List Value}, All2 R l m → All2 R l' m' → All2 R (l ++ l') (m ++ m')
  | [], [], _, _, _, h => h
  | _ :: _, _ :: _, _, _, h, h' => ⟨h.1, All2_append h.2 h'⟩
  | [], _ :: _, _, _, h, _ => h.elim
  | _ :: _, [], _, _, h, _ => h.elim
theorem All2_take {R : Value → Value → Prop} : ∀ (n : Nat) {l m : List Value}, All2 R l m → All2 R (l.take n) (m.take n)
  | 0, _, _, _ => by simp [All2]
  | n + 1, [], [], _ => by simp [All2]
  | n + 1, _ :: _, _ :: _, h => by simp only [List.take_succ_cons]; exact ⟨h.1, All2_take n h.2⟩
  | _ + 1, [], _ :: _, h => h.elim
  | _ + 1, _ :: _, [], h => h.elim
theorem All2_drop {R : Value → Value → Prop} : ∀ (n : Nat) {l m : List Value}, All2 R l m → All2 R (l.drop n) (m.drop n)
  | 0, _, _, h => by simpa using h
  | n + 1, [], [], _ => by simp [All2]
  | n + 1, _ :: _, _ :: _, h => by simp only [List.drop_succ_cons]; exact All2_drop n h.2
  | _ + 1, [], _ :: _, h => h.elim
  | _ + 1, _ :: _, [], h => h.elim
/-! ### The engine's places and the machine's -/
def VRE (ρ : Rho) (env : Env) (a : Act) : Prop := ∀ t, VR ρ (lk env t) (a.tmps.getD t undef)
theorem VR_wild (ρ : Rho) (u : Value) : VR ρ wild u := trivial
theorem lk_cons (d : Nat) (v : Value) (env : Env) (t : Nat) : lk ((d, v) :: env) t = if d = t then v else lk env t := by
  simp only [lk]
  by_cases h : d = t
  · subst h; simp
  · have : Nat.beq d t = false := by
      cases hb : Nat.beq d t
      · rfl
      · exact absurd (Nat.eq_of_beq_eq_true hb) h
    simp [this, h]
theorem VRE_put {ρ : Rho} {env : Env} {a : Act} {v u : Value} {dst : Option Tmp} (h : VRE ρ env a) (hv : VR ρ v u) (hd : ∀ d, dst = some d → d < a.tmps.size) :
    VRE ρ (putE dst v env) (a.put dst u) := by
  cases dst with
  | none => exact h
  | some d =>
    intro t
    have := hd d rfl
    simp only [putE, lk_cons, Act.put]
    by_cases ht : d = t
    · subst ht; simpa [this] using hv
    · simpa [ht, Array.getElem?_setIfInBounds_ne ht] using h t
theorem VRE_mono {ρ ρ' : Rho} (hs : Sub ρ ρ') {env : Env} {a : Act} (h : VRE ρ env a) : VRE ρ' env a := fun t => VR_mono hs (h t)
theorem constC_CR {ρ : Rho} {v : Value} (h : constC v = true) : CR ρ v v := by
  unfold constC at h
  split at h <;> first | (simp [CR]; done) | (cases h)
theorem constV_VR (ρ : Rho) (v : Value) : VR ρ (constV v) v := by
  unfold constV
  split <;> first
    | (simp [VR, V2, CR]; done)
    | exact VR_wild _ _
    | skip
  · split
    · rename_i cs hc
      refine ⟨cs, rfl, ?_⟩
      generalize cs.toList = l at hc
      induction l with
      | nil => trivial
      | cons x xs ih => simp at hc; exact ⟨constC_CR hc.1, ih (by simpa using hc.2)⟩
    · trivial
theorem ev_VR {ρ : Rho} {env : Env} {a : Act} (h : VRE ρ env a) (x : Operand) : VR ρ (ev env x) (a.eval x) := by
  cases x with
  | tmp t => exact h t
  | const v => exact constV_VR ρ v
  | global g => trivial
  | func f => trivial
section inv
variable {ρ : Rho} {u : Value}
theorem VR_int {k : IntKind} {n : Int} (h : VR ρ (.int k n) u) : u = .int k n := h
theorem VR_bool {b : Bool} (h : VR ρ (.bool b) u) : u = .bool b := h
theorem VR_string {b : ByteArray} (h : VR ρ (.string b) u) : u = .string b := h
theorem VR_pnone (h : VR ρ (.pointer none) u) : u = .pointer none := h
theorem VR_pt {h o : Nat} (hh : VR ρ (.pointer (some ⟨h, o, none⟩)) u) : ∃ p, ρ h = some p ∧ u = .pointer (some ⟨p.b, p.o + o, none⟩) := hh
theorem VR_pt' {a : Addr} (hh : VR ρ (.pointer (some a)) u) : ∃ p, ρ a.block = some p ∧ u = .pointer (some ⟨p.b, p.o + a.off, none⟩) ∧ a.spot = none := by
  obtain ⟨b, o, s⟩ := a
  cases s with
  | none => obtain ⟨p, h1, h2⟩ := hh; exact ⟨p, h1, h2, rfl⟩
  | some s => exact hh.elim
theorem VR_agg {cs : Array Value} (h : VR ρ (.agg cs) u) : ∃ ds, u = .agg ds ∧ All2 (CR ρ) cs.toList ds.toList := h
theorem VR_tuple {cs : Array Value} (h : VR ρ (.tuple cs) u) : ∃ ds, u = .tuple ds ∧ All2 (V2 ρ) cs.toList ds.toList := h
theorem V2_VR {v : Value} (h : V2 ρ v u) : VR ρ v u := by
  cases v with
  | tuple vs => exact h.elim
  | _ => exact h
theorem CR_V2 {v : Value} (h : CR ρ v u) : V2 ρ v u := by
  cases v with
  | nilFunc => trivial
  | agg vs => exact h.elim
  | tuple vs => exact h.elim
  | _ => exact h
theorem CR_VR {v : Value} (h : CR ρ v u) : VR ρ v u := V2_VR (CR_V2 h)
theorem CR_oneCell {v : Value} (h : CR ρ v u) : u.oneCell' = true := by
  unfold CR at h
  split at h <;> first
    | (obtain ⟨_, _, rfl⟩ := h; rfl)
    | (obtain ⟨_, _, _, _, rfl, _⟩ := h; rfl)
    | (obtain ⟨_, rfl⟩ := h; rfl)
    | (subst h; rfl)
    | exact h.elim
theorem CR_cells {v : Value} (h : CR ρ v u) : u.cells = #[u] ∧ v.cells = #[v] := by
  unfold CR at h
  split at h <;> first
    | (obtain ⟨_, _, rfl⟩ := h; exact ⟨rfl, rfl⟩)
    | (obtain ⟨_, _, _, _, rfl, _⟩ := h; exact ⟨rfl, rfl⟩)
    | (obtain ⟨_, rfl⟩ := h; exact ⟨rfl, rfl⟩)
    | (subst h; exact ⟨rfl, rfl⟩)
    | exact h.elim
/-- The cells of a value that is one or a struct. -/
theorem VR_cells {v : Value} (h : VR ρ v u) (hv : vok v = true) : All2 (CR ρ) (cellsOf v) u.cells.toList := by
  cases v with
  | nilFunc => cases hv
  | tuple vs => cases hv
  | agg cs => obtain ⟨ds, rfl, h⟩ := h; exact h
  | _ =>
    simp only [VR, V2] at h
    have h' := h
    have hc := CR_cells h'
    simp only [cellsOf, hc.1, hc.2]
    exact ⟨h', trivial⟩
end inv
/-! ### Reckoning -/
theorem pureRun_run {α : Type} {P : Program} : ∀ {s : Sem α} {a : α}, pureRun P s = some a → ∀ W, s.run P W = .ok a W
  | .pure x, a, h, W => by simp [pureRun] at h; subst h; rfl
  | .program k, a, h, W => by simp only [pureRun] at h; simp only [Sem.run]; exact pureRun_run h W
theorem plain_CR {ρ : Rho} {v u : Value} (hp : plain v = true) (h : CR ρ v u) : u = v := by
  unfold plain at hp
  split at hp <;> first | exact h | cases hp
theorem plain_All2 {ρ : Rho} : ∀ {l m : List Value}, l.all plain = true → All2 (CR ρ) l m → m = l
  | [], [], _, _ => rfl
  | x :: xs, y :: ys, hp, h => by
    simp at hp
    rw [plain_CR hp.1 h.1, plain_All2 (by simpa using hp.2) h.2]
  | [], _ :: _, _, h => h.elim
  | _ :: _, [], _, h => h.elim
section equal
variable {P : Program} {t : TypeId}
theorem run_equal_bool (ht : P.underlying t = some .bool) (a b : Bool) (W : World) : (Op.equal t (.bool a) (.bool b)).run P W = .ok (a == b) W := by
  show (Op.equalIn (9999 + 1) t (.bool a) (.bool b)).run P W = _
  unfold Op.equalIn
  simp [underlying, ht]
theorem run_equal_pnil {e : TypeId} (ht : P.underlying t = some (.pointer e)) (a : Option Addr) (W : World) : (Op.equal t (.pointer a) (.pointer none)).run P W = .ok a.isNone W := by
  show (Op.equalIn (9999 + 1) t (.pointer a) (.pointer none)).run P W = _
  unfold Op.equalIn
  cases a <;> simp [underlying, ht]
end equal
section reck
variable {P : Program} {op : BinOp} {t : TypeId} {x y : Operand} {a b : Value} {v : Value}
theorem run_bnI {ρ : Rho} {u w : Value} (h : bnI op a b = some v) (ha : VR ρ a u) (hb : VR ρ b w) (W : World) :
    (do eqGuard op t x y u w; binOp op t u w : Sem Value).run P W = .ok v W ∧ VR ρ v v := by
  unfold bnI at h
  split at h
  · rename_i k p k' q
    rw [VR_int ha, VR_int hb]
    cases op <;> simp only at h <;> (repeat' (split at h)) <;> simp at h <;> try (subst h)
    all_goals
      (try simp_all)
      refine ⟨?_, by first | (simp [VR, V2, CR]; done)⟩
      simp [eqGuard, binOp, Op.intArith, Op.intDiv, Op.intBits, Op.intCmp, Op.shift, *] <;> (try (intro h'; omega))
  · cases h
theorem run_bnS {ρ : Rho} {u w : Value} (h : bnS op a b = some v) (ha : VR ρ a u) (hb : VR ρ b w) (W : World) :
    (do eqGuard op t x y u w; binOp op t u w : Sem Value).run P W = .ok v W ∧ VR ρ v v := by
  unfold bnS at h
  split at h
  · rename_i p q
    rw [VR_string ha, VR_string hb]
    cases op <;> simp only at h <;> (repeat' (split at h)) <;> simp at h <;> try (subst h)
    all_goals
      refine ⟨?_, by first | (simp [VR, V2, CR]; done)⟩
      simp [eqGuard, binOp, Op.stringOp] <;> (try (intros; omega)) <;> (try simp_all) <;> (try omega)
  · cases h
theorem run_bnB {ρ : Rho} {u w : Value} (ht : P.underlying t = some .bool) (h : bnB op a b = some v) (ha : VR ρ a u) (hb : VR ρ b w) (W : World) :
    (do eqGuard op t x y u w; binOp op t u w : Sem Value).run P W = .ok v W ∧ VR ρ v v := by
  unfold bnB at h
  split at h
  · rename_i p q
    rw [VR_bool ha, VR_bool hb]
    cases op <;> simp only at h <;> simp at h <;> try (subst h)
    all_goals
      refine ⟨?_, by first | (simp [VR, V2, CR]; done)⟩
      simp [eqGuard, binOp, run_equal_bool ht]
  · cases h
theorem run_bnP {ρ : Rho} {u w : Value} {e : TypeId} (ht : P.underlying t = some (.pointer e)) (h : bnP op a b = some v) (ha : VR ρ a u) (hb : VR ρ b w) (W : World) :
    (do eqGuard op t x y u w; binOp op t u w : Sem Value).run P W = .ok v W ∧ VR ρ v v := by
  unfold bnP at h
  split at h
  · rename_i p
    rw [VR_pnone hb]
    cases p with
    | none =>
      rw [VR_pnone ha]
      cases op <;> simp only at h <;> simp at h <;> try (subst h)
      all_goals
        refine ⟨?_, by first | (simp [VR, V2, CR]; done)⟩
        simp [eqGuard, binOp, run_equal_pnil ht]
    | some p =>
      obtain ⟨q, _, rfl, _⟩ := VR_pt' ha
      cases op <;> simp only at h <;> simp at h <;> try (subst h)
      all_goals
        refine ⟨?_, by first | (simp [VR, V2, CR]; done)⟩
        simp [eqGuard, binOp, run_equal_pnil ht]
  · cases h
end reck
end Go.Proofs.Ytmikdglafmfnfaa.Eng
