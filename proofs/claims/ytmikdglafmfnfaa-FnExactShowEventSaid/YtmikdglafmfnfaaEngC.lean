/- The engine's truth, third part: structs, and all operations on values alone. -/
import Derived.Test.YtmikdglafmfnfaaEngB
namespace Go.Proofs.Ytmikdglafmfnfaa.Eng
open Go Go.RowKit
set_option linter.unusedVariables false
set_option linter.unusedSimpArgs false
theorem splice_length (l : List Value) (off : Nat) (xs : List Value) (h : off + xs.length ≤ l.length) : (splice l off xs).length = l.length := by
  simp [splice]; omega
theorem splice_get (l : List Value) (off : Nat) (xs : List Value) (h : off + xs.length ≤ l.length) (i : Nat) : (splice l off xs)[i]? = if off ≤ i ∧ i < off + xs.length then xs[i - off]? else l[i]? := by
  unfold splice
  have hl : (l.take off).length = off := by simp; omega
  by_cases h1 : i < off
  · rw [List.append_assoc, List.getElem?_append_left (by omega), List.getElem?_take_of_lt h1, if_neg (by omega)]
  · by_cases h2 : i < off + xs.length
    · rw [List.append_assoc, List.getElem?_append_right (by omega), hl, List.getElem?_append_left (by omega), if_pos (by omega)]
    · rw [List.getElem?_append_right (by simp; omega), List.getElem?_drop, if_neg (by omega)]
      congr 1
      simp; omega
theorem foldl_set (f : Array Value → Value × Nat → Array Value) (off : Nat) (hf : ∀ A c j, f A (c, j) = A.setIfInBounds (off + j) c) : ∀ (l : List Value) (k : Nat) (A : Array Value), off + k + l.length ≤ A.size →
    ((l.zipIdx k).foldl f A).toList = splice A.toList (off + k) l
  | [], k, A, h => by simp [splice]
  | x :: xs, k, A, h => by
    simp only [List.length_cons] at h
    rw [List.zipIdx_cons, List.foldl_cons, hf, foldl_set f off hf xs (k + 1) _ (by simp; omega)]
    apply List.ext_getElem?
    intro i
    rw [splice_get _ _ _ (by simp; omega), splice_get _ _ _ (by simp; omega)]
    simp only [Array.toList_setIfInBounds, List.getElem?_set, List.length_cons, Array.length_toList]
    by_cases h1 : i = off + k
    · subst h1
      have : off + k < A.size := by omega
      simp [this]
      omega
    · by_cases h2 : off + (k + 1) ≤ i ∧ i < off + (k + 1) + xs.length
      · have h3 : off + k ≤ i ∧ i < off + k + (xs.length + 1) := by omega
        rw [if_pos h2, if_pos h3]
        have h4 : i - (off + k) = (i - (off + (k + 1))) + 1 := by omega
        rw [h4, List.getElem?_cons_succ]
      · have h3 : ¬ (off + k ≤ i ∧ i < off + k + (xs.length + 1)) := by omega
        rw [if_neg h2, if_neg h3, if_neg (by omega)]
theorem fold_cells (v : Value) (off : Nat) (A : Array Value) (h : off + v.cells.size ≤ A.size) :
    (v.cells.zipIdx.foldl (fun cs (c, j) => cs.setIfInBounds (off + j) c) A).toList = splice A.toList off v.cells.toList := by
  rw [← Array.foldl_toList, Array.toList_zipIdx]
  have := foldl_set (fun cs (x : Value × Nat) => cs.setIfInBounds (off + x.2) x.1) off (fun A c j => rfl) v.cells.toList 0 A (by simpa using h)
  simpa using this
theorem All2_splice {R : Value → Value → Prop} {l m xs ys : List Value} (off : Nat) (h : All2 R l m) (k : All2 R xs ys) : All2 R (splice l off xs) (splice m off ys) := by
  unfold splice
  rw [All2_length k]
  exact All2_append (All2_append (All2_take _ h) k) (All2_drop _ h)
def PartsR (ρ : Rho) (place : Nat → Option (Nat × Nat)) : List (Nat × Nat × Value) → List (Nat × Value) → Prop
  | [], [] => True
  | (off, sz, v) :: r, (i, u) :: r' => place i = some (off, sz) ∧ VR ρ v u ∧ PartsR ρ place r r'
  | _, _ => False
theorem fill_rel {ρ : Rho} {place : Nat → Option (Nat × Nat)} : ∀ (ps : List (Nat × Nat × Value)) (us : List (Nat × Value)) (cs cs' : List Value) (A : Array Value),
    PartsR ρ place ps us → All2 (CR ρ) cs A.toList → fillE cs ps = some cs' → ∃ B, Instr.fill place A us = some B ∧ All2 (CR ρ) cs' B.toList
  | [], [], cs, cs', A, _, hc, h => by simp [fillE] at h; subst h; exact ⟨A, rfl, hc⟩
  | (off, sz, v) :: r, (i, u) :: r', cs, cs', A, hp, hc, h => by
    obtain ⟨h1, h2, h3⟩ := hp
    simp only [fillE] at h
    split at h
    · rename_i hv
      simp only [Bool.and_eq_true, beq_iff_eq, decide_eq_true_eq] at hv
      have hcl := VR_cells h2 hv.1.1
      have hl := All2_length hcl
      have hla := All2_length hc
      simp only [Array.length_toList] at hl hla
      have hs : u.cells.size = sz := by rw [← hl]; exact hv.1.2
      have hb : off + u.cells.size ≤ A.size := by rw [hs, ← hla]; exact hv.2
      have hk := fold_cells u off A hb
      obtain ⟨B, hB, hr⟩ := fill_rel r r' (splice cs off (cellsOf v)) cs' (u.cells.zipIdx.foldl (fun cs (c, j) => cs.setIfInBounds (off + j) c) A) h3 (by rw [hk]; exact All2_splice off hc hcl) h
      refine ⟨B, ?_, hr⟩
      simp only [Instr.fill, h1]
      rw [if_neg (by simp; omega)]
      exact hB
    · cases h
  | [], _ :: _, _, _, _, h, _, _ => h.elim
  | _ :: _, [], _, _, _, h, _, _ => h.elim
section
variable {P : Program} {ρ : Rho} {env : Env} {a : Act}
theorem constC_all {ρ : Rho} : ∀ {l : List Value}, l.all constC = true → All2 (CR ρ) l l
  | [], _ => trivial
  | x :: xs, h => by simp at h; exact ⟨constC_CR h.1, constC_all (by simpa using h.2)⟩
theorem zeroT_info {t : TypeId} {z : List Value} {sz by' : Nat} (h : zeroT P t = some (z, sz, by')) : ∃ i v, P.info? t = some i ∧ i.zero = some v ∧ v.cells.toList = z ∧ i.size = sz ∧ i.bytes = by' ∧ z.length = sz ∧ ∀ ρ, All2 (CR ρ) z z := by
  unfold zeroT at h
  cases hi : P.info? t with
  | none => simp [hi] at h
  | some i =>
    cases hz : i.zero with
    | none => simp [hi, hz] at h
    | some v =>
      simp only [hi, Option.bind_some, hz] at h
      split at h
      · rename_i hc
        simp only [Bool.and_eq_true, beq_iff_eq] at hc
        simp only [Option.some.injEq, Prod.mk.injEq] at h
        obtain ⟨rfl, rfl, rfl⟩ := h
        exact ⟨i, v, rfl, hz, rfl, rfl, rfl, hc.1, fun ρ => constC_all hc.2⟩
      · cases h
theorem run_mapM_list {α β : Type} {f : α → Sem β} {g : α → β} (W : World) : ∀ (l : List α), (∀ x ∈ l, (f x).run P W = .ok (g x) W) → (l.mapM f).run P W = .ok (l.map g) W
  | [], _ => by simp
  | x :: xs, h => by
    rw [List.mapM_cons]
    simp [h x (by simp), run_mapM_list W xs fun y hy => h y (by simp [hy])]
theorem run_mapM_array {α β : Type} {f : α → Sem β} {g : α → β} (W : World) (l : Array α) (h : ∀ x ∈ l, (f x).run P W = .ok (g x) W) : (l.mapM f).run P W = .ok (l.map g) W := by
  rw [Array.mapM_eq_mapM_toList, Sem.run_map, run_mapM_list W l.toList fun x hx => h x (by simpa using hx)]
  simp only [Result.andThen_ok]
  congr 1
  apply Array.toList_inj.1
  simp
theorem partsS_rel (hE : VRE ρ env a) {fields : Array Field} : ∀ {l : List (Nat × Operand)} {ps : List (Nat × Nat × Value)}, partsS P env fields l = some ps →
    PartsR ρ (fun i => (fields.map fun f => (f.offset, P.cellsOf f.type))[i]?) ps (l.map fun (i, x) => (i, a.eval x))
  | [], ps, h => by simp [partsS] at h; subst h; trivial
  | (i, x) :: r, ps, h => by
    simp only [partsS] at h
    cases hf : fields[i]? with
    | none => simp [hf] at h
    | some f =>
      cases hs : szT P f.type with
      | none => simp [hf, hs] at h
      | some sz =>
        cases hr : partsS P env fields r with
        | none => simp [hf, hs, hr] at h
        | some l =>
          simp only [hf, Option.bind_some, hs, hr, Option.map_some, Option.some.injEq] at h
          subst h
          obtain ⟨i', hi', hsz⟩ := szT_info hs
          refine ⟨by simp [hf, Program.cellsOf, hi', hsz], ev_VR hE x, ?_⟩
          exact partsS_rel hE hr
theorem partsL_rel (hE : VRE ρ env a) (sz : Nat) : ∀ (l : List (Nat × Operand)), PartsR ρ (fun i => some (i * sz, sz)) (partsL env sz l) (l.map fun (i, x) => (i, a.eval x))
  | [] => trivial
  | (i, x) :: r => ⟨rfl, ev_VR hE x, partsL_rel hE sz r⟩
theorem run_buildS {t : TypeId} {z : List Value} {sz by' : Nat} {fields : Array Field} {parts : Array (Nat × Operand)} {ps : List (Nat × Nat × Value)} {v : Value} (hE : VRE ρ env a) (hz : zeroT P t = some (z, sz, by'))
    (ht : P.underlying t = some (.struct fields)) (hf : fieldsOk P fields = true) (hp : partsS P env fields parts.toList = some ps) (h : bd z ps = some v)   :
    ∃ u, VR ρ v u ∧ ∀ W, (Instr.build t (parts.map fun (i, x) => (i, a.eval x))).run P W = .ok u W := by
  obtain ⟨i, zv, hi, hzv, hzc, hsz, _, hlen, hself⟩ := zeroT_info hz
  simp only [bd, Option.map_eq_some_iff] at h
  obtain ⟨cs, hcs, rfl⟩ := h
  obtain ⟨B, hB, hr⟩ := fill_rel (ρ := ρ) ps _ z cs zv.cells (partsS_rel hE hp) (by rw [hzc]; exact hself ρ) hcs
  have hm := fun W => run_mapM_array (P := P) (f := fun f : Field => do pure (f.offset, ← sizeOf f.type)) (g := fun f => (f.offset, P.cellsOf f.type)) W fields (fun f hfm => by
    have := (Array.all_eq_true_iff_forall_mem.1 hf) f hfm
    obtain ⟨s, hs⟩ := Option.isSome_iff_exists.1 this
    obtain ⟨j, hj, hjs⟩ := szT_info hs
    simp [sizeOf, typeInfo, hj, Program.cellsOf])
  refine ⟨.agg B, ⟨B, rfl, by simpa using hr⟩, ?_⟩
  intro W
  simp only [Instr.build, zeroValue, typeInfo, underlying, Sem.run_bind, run_program, Result.andThen_ok, hi, Sem.run_pure, hzv, ht, hm, Array.toList_map, hB]
theorem run_buildA {t e : TypeId} {z : List Value} {n sz sz' by' : Nat} {parts : Array (Nat × Operand)} {v : Value} (hE : VRE ρ env a) (hz : zeroT P t = some (z, sz, by'))
    (ht : P.underlying t = some (.array n e)) (hs : szT P e = some sz') (h : bd z (partsL env sz' parts.toList) = some v)   :
    ∃ u, VR ρ v u ∧ ∀ W, (Instr.build t (parts.map fun (i, x) => (i, a.eval x))).run P W = .ok u W := by
  obtain ⟨i, zv, hi, hzv, hzc, hsz, _, hlen, hself⟩ := zeroT_info hz
  obtain ⟨j, hj, hjs⟩ := szT_info hs
  simp only [bd, Option.map_eq_some_iff] at h
  obtain ⟨cs, hcs, rfl⟩ := h
  obtain ⟨B, hB, hr⟩ := fill_rel (ρ := ρ) _ _ z cs zv.cells (partsL_rel hE sz' parts.toList) (by rw [hzc]; exact hself ρ) hcs
  refine ⟨.agg B, ⟨B, rfl, by simpa using hr⟩, ?_⟩
  intro W
  simp only [Instr.build, zeroValue, sizeOf, typeInfo, underlying, Sem.run_bind, run_program, Result.andThen_ok, hi, hj, hjs, Sem.run_pure, hzv, ht, Array.toList_map, hB]
/-- AN OPERATION ON VALUES ALONE, whatever the machine's memory is. -/
def Yld (P : Program) (ρ : Rho) (a : Act) (o : Oper) (v : Value) : Prop := ∃ u, VR ρ v u ∧ ∀ W, (execOp a.eval o).run P W = .ok (.value u) W
theorem val_sound {o : Oper} {v : Value} (hE : VRE ρ env a) (h : opOf P env o = some (.val v)) : Yld P ρ a o v := by
  obtain ⟨dst, op, type, pos, after, guard⟩ := o
  cases op
  case move x => simp only [opOf, Option.some.injEq, Stp.val.injEq] at h; subst h; exact ⟨_, ev_VR hE x, fun W => rfl⟩
  case assign x => simp only [opOf, Option.some.injEq, Stp.val.injEq] at h; subst h; exact ⟨_, ev_VR hE x, fun W => rfl⟩
  case slice t x lo hi mx => cases mx <;> simp only [opOf] at h <;> (repeat' (split at h)) <;> simp [Option.map_eq_some_iff] at h
  all_goals (simp only [opOf] at h; (repeat' (split at h)) <;> simp [Option.bind_eq_some_iff, Option.map_eq_some_iff] at h <;> (try (obtain ⟨_, _, h⟩ := h; (repeat' (split at h)) <;> simp at h)))
theorem yld_of {o : Oper} {s : Sem Value} {v : Value} (he : execOp a.eval o = (do pure (Next.value (← s)))) (h : ∃ u, VR ρ v u ∧ ∀ W, s.run P W = .ok u W) : Yld P ρ a o v := by
  obtain ⟨u, hv, hr⟩ := h
  exact ⟨u, hv, fun W => by rw [he]; exact run_v (hr W)⟩
theorem all_ok {s : Sem Value} {v : Value} (h : ∀ W, s.run P W = .ok v W ∧ VR ρ v v) : ∃ u, VR ρ v u ∧ ∀ W, s.run P W = .ok u W := ⟨v, (h default).2, fun W => (h W).1⟩
theorem pure_sound {o : Oper} {r : Option Value} {v : Value} (hE : VRE ρ env a) (h : opOf P env o = some (.pure r)) (hr : r = some v) : Yld P ρ a o v := by
  obtain ⟨dst, op, type, pos, after, guard⟩ := o
  cases op
  case pick c x y =>
    simp only [opOf, Option.some.injEq, Stp.pure.injEq] at h; subst h
    exact run_pk hr (ev_VR hE c) (ev_VR hE x) (ev_VR hE y)
  case build t parts =>
    simp only [opOf] at h
    cases hz : zeroT P t with
    | none => simp [hz] at h
    | some z =>
      obtain ⟨z, sz, b⟩ := z
      simp only [hz, Option.bind_some] at h
      split at h
      · rename_i fields ht
        split at h
        · rename_i hf
          simp only [Option.map_eq_some_iff, Stp.pure.injEq] at h
          obtain ⟨ps, hps, rfl⟩ := h
          exact yld_of rfl (run_buildS hE hz ht hf hps hr)
        · cases h
      · rename_i n e ht
        simp only [Option.map_eq_some_iff, Stp.pure.injEq] at h
        obtain ⟨s, hs, rfl⟩ := h
        exact yld_of rfl (run_buildA hE hz ht hs hr)
      · cases h
  case nilCheck x =>
    simp only [opOf, Option.some.injEq, Stp.pure.injEq] at h; subst h
    have hx := ev_VR hE x
    unfold nc at hr
    split at hr
    · rename_i p he
      cases hr
      rw [he] at hx
      obtain ⟨q, hq, hu, _⟩ := VR_pt' hx
      exact ⟨_, hx, fun W => by simp [execOp, hu]⟩
    · cases hr
  case binOp op t x y yt =>
    simp only [opOf] at h
    split at h <;> (try cases h) <;> rename_i ht
    · exact yld_of rfl (all_ok fun W => run_bnI hr (ev_VR hE x) (ev_VR hE y) W)
    · exact yld_of rfl (all_ok fun W => run_bnS hr (ev_VR hE x) (ev_VR hE y) W)
    · exact yld_of rfl (all_ok fun W => run_bnB ht hr (ev_VR hE x) (ev_VR hE y) W)
    · exact yld_of rfl (all_ok fun W => run_bnP ht hr (ev_VR hE x) (ev_VR hE y) W)
    · exact yld_of rfl (all_ok fun W => run_bnA hr (ev_VR hE x) (ev_VR hE y) W)
  case unOp op t x =>
    simp only [opOf, Option.some.injEq, Stp.pure.injEq] at h; subst h
    exact yld_of rfl (all_ok fun W => run_un hr (ev_VR hE x) W)
  case convert src dst' x =>
    simp only [opOf] at h
    split at h
    · rename_i k1 k h1 h2
      cases h
      have hx := ev_VR hE x
      unfold cvI at hr
      split at hr
      · rename_i k' n he
        cases hr
        rw [he] at hx
        refine yld_of rfl ⟨_, (rfl : VR ρ (.int k (k.wrap n)) _), fun W => ?_⟩
        show (convert src dst' (a.eval x)).run P W = _
        rw [VR_int hx]
        simp [convert, underlying, h1, h2, Conv.intToInt]
      · cases hr
    · split at h <;> cases h
    · cases h
  case slice t x lo hi mx =>
    cases mx with
    | some m => simp [opOf] at h
    | none =>
      simp only [opOf] at h
      split at h
      · rename_i ht
        cases h
        exact yld_of rfl (all_ok fun W => run_scS hE ht hr (ev_VR hE x) W)
      · rename_i e ht
        simp only [Option.map_eq_some_iff, Stp.pure.injEq] at h
        obtain ⟨s, hs, rfl⟩ := h
        exact yld_of rfl (run_scL hE ht hs hr (ev_VR hE x))
      · cases h
  case fieldAddr t x i =>
    simp only [opOf] at h
    split at h
    · rename_i fields ht
      simp only [Option.bind_eq_some_iff] at h
      obtain ⟨f, hf, sz, hs, h⟩ := h
      split at h
      · cases h
      · rename_i hz
        cases h
        exact yld_of rfl (run_fa ht hf hs hz hr (ev_VR hE x))
    · cases h
  case indexAddr t x i =>
    simp only [opOf] at h
    split at h
    · rename_i e ht
      simp only [Option.map_eq_some_iff, Stp.pure.injEq] at h
      obtain ⟨s, hs, rfl⟩ := h
      exact yld_of rfl (run_ia ht hs hr (ev_VR hE x) (ev_VR hE i))
    · rename_i n e ht
      simp only [Option.map_eq_some_iff, Stp.pure.injEq] at h
      obtain ⟨s, hs, rfl⟩ := h
      exact yld_of rfl (run_iaA ht hs hr (ev_VR hE x) (ev_VR hE i))
    · cases h
  case index t x i =>
    simp only [opOf] at h
    split at h
    · rename_i ht
      cases h
      exact yld_of rfl (all_ok fun W => run_ix ht hr (ev_VR hE x) (ev_VR hE i) W)
    · cases h
  case extract x i =>
    simp only [opOf, Option.some.injEq, Stp.pure.injEq] at h; subst h
    exact yld_of rfl (run_ex hr (ev_VR hE x))
  case call c =>
    obtain ⟨callee, args, argTypes⟩ := c
    simp only [opOf] at h
    split at h
    · split at h
      · split at h <;> cases h
      · cases h
    · split at h
      · rename_i t x hts has
        have e1 : argTypes = #[t] := by cases argTypes; simp_all
        have e2 : args = #[x] := by cases args; simp_all
        subst e1; subst e2
        split at h <;> (try cases h) <;> rename_i ht
        · exact yld_of (s := Builtin.len_ #[t] type #[a.eval x]) (by simp [execOp, resolve, invoke, builtin]) (all_ok fun W => run_lnS ht hr (ev_VR hE x) W)
        · exact yld_of (s := Builtin.len_ #[t] type #[a.eval x]) (by simp [execOp, resolve, invoke, builtin]) (all_ok fun W => run_lnL ht hr (ev_VR hE x) W)
      · cases h
    · split at h
      · rename_i x y has
        cases h
        have e2 : args = #[x, y] := by cases args; simp_all
        subst e2
        exact yld_of (s := Builtin.min_ argTypes type #[a.eval x, a.eval y]) (by simp [execOp, resolve, invoke, builtin]) (all_ok fun W => run_mn hr (ev_VR hE x) (ev_VR hE y) W)
      · cases h
    · split at h
      · split at h
        · split at h
          · simp only [Option.bind_eq_some_iff] at h
            obtain ⟨z, _, h⟩ := h
            split at h <;> cases h
          · cases h
        · cases h
      · cases h
    · cases h
  all_goals (simp only [opOf] at h; (repeat' (split at h)) <;> simp [Option.bind_eq_some_iff, Option.map_eq_some_iff] at h <;> (try (obtain ⟨_, _, h⟩ := h; (repeat' (split at h)) <;> simp at h)))
end
end Go.Proofs.Ytmikdglafmfnfaa.Eng
