/- The engine's truth, seventh part: calls, operations in a row. -/
import Derived.Test.YtmikdglafmfnfaaEngF
namespace Go.Proofs.Ytmikdglafmfnfaa.Eng
open Go Go.RowKit
set_option linter.unusedVariables false
set_option linter.unusedSimpArgs false
def stpGoes (C : Ctx) : Stp → St → Value → St → Prop
  | .val x, s, v, s' => v = x ∧ s' = s
  | .pure r, s, v, s' => r = some v ∧ s' = s
  | .rd _ g, s, v, s' => g s = some (v, s')
  | .al g, s, v, s' => g s = some (v, s')
  | .mu g, s, v, s' => g s = some (v, s')
  | .call f args, s, v, s' => Goes C f args s v s'
theorem stpQ_iff {C : Ctx} {st : Stp} {K : Value → Q} {s : St} : stpQ C st K s ↔ ∃ v s', stpGoes C st s v s' ∧ K v s' := by
  cases st with
  | val x => exact ⟨fun h => ⟨x, s, ⟨rfl, rfl⟩, h⟩, fun ⟨v, s', ⟨h1, h2⟩, h⟩ => by subst h1; subst h2; exact h⟩
  | pure r => exact ⟨fun ⟨v, h1, h⟩ => ⟨v, s, ⟨h1, rfl⟩, h⟩, fun ⟨v, s', ⟨h1, h2⟩, h⟩ => by subst h2; exact ⟨v, h1, h⟩⟩
  | rd w g => exact Iff.rfl
  | al g => exact Iff.rfl
  | mu g => exact Iff.rfl
  | call f args => exact Iff.rfl
section
variable {C : Ctx} {ρ : Rho} {env : Env} {a : Act} {s s' : St} {W : World}
theorem call_sound {o : Oper} {f : FuncId} {args : List Value} {v : Value} {N : Act → World → Prop} {Q : Exit → Act → World → Prop} (hR : Rel C ρ s W) (hE : VRE ρ env a) (h : opOf C.P env o = some (.call f args)) (hg : Goes C f args s v s') (hfree : Free ρ s.n s'.n)
    (hN : ∀ ρ' W' u, Rel C ρ' s' W' → Way ρ s W ρ' s' W' → VR ρ' v u → N (a.put o.dst u) W') : o.wp C.P a W N Q := by
  obtain ⟨dst, op, type, pos, after, guard⟩ := o
  cases op
  case call c =>
    obtain ⟨callee, as, argTypes⟩ := c
    simp only [opOf] at h
    split at h
    · rename_i f'
      split at h
      · rename_i body hb
        split at h
        · cases h
        · rename_i hname
          simp only [Option.some.injEq, Stp.call.injEq] at h
          obtain ⟨rfl, rfl⟩ := h
          cases hf : C.P.funcs[f']? with
          | none => simp [hf] at hb
          | some fn =>
            simp only [hf, Option.bind_some] at hb
            simp only [hf, Option.map_some, Option.getD_some] at hname
            have hrun : (execOp a.eval ⟨dst, .call { callee := .value (.func f'), args := as, argTypes := argTypes }, type, pos, after, guard⟩).run C.P W = .ok (.enter f' (as.toList.map a.eval).toArray) W := by
              have hn : ¬ fn.name = "runtime.NumGoroutine" := by simpa using hname
              simp [execOp, resolve, Act.eval, Deferred.ofValue, invoke, callFunc, hf, hn, hb]
              apply Array.toList_inj.1; simp
            unfold Oper.wp
            rw [hrun]
            have hargs : All2 (VR ρ) (as.toList.map (ev env)) (as.toList.map a.eval) := by
              generalize as.toList = l
              induction l with
              | nil => trivial
              | cons x xs ih => exact ⟨ev_VR hE x, ih⟩
            refine Calls.mono (hg.2 ρ W _ hfree hR hargs) fun e W' he => ?_
            cases e with
            | returned u => obtain ⟨ρ', h1, h2, h3⟩ := he; exact hN ρ' W' u h2 h1 h3
            | panicked ch => exact he.elim
            | outgrown => exact he.elim
      · cases h
    · (repeat' (split at h)) <;> cases h
    · (repeat' (split at h)) <;> cases h
    · split at h
      · split at h
        · split at h
          · simp only [Option.bind_eq_some_iff] at h
            obtain ⟨_, _, h⟩ := h
            split at h <;> cases h
          · cases h
        · cases h
      · cases h
    · cases h
  case slice t x lo hi mx => cases mx <;> simp only [opOf] at h <;> (repeat' (split at h)) <;> simp [Option.map_eq_some_iff] at h
  all_goals (simp only [opOf] at h; (repeat' (split at h)) <;> simp [Option.bind_eq_some_iff, Option.map_eq_some_iff] at h <;> (try (obtain ⟨_, _, h⟩ := h; (repeat' (split at h)) <;> simp at h)))
theorem stp_sound {o : Oper} {st : Stp} {v : Value} {N : Act → World → Prop} {Q : Exit → Act → World → Prop} (hR : Rel C ρ s W) (hE : VRE ρ env a) (h : opOf C.P env o = some st) (hg : stpGoes C st s v s') (hfree : Free ρ s.n s'.n)
    (hN : ∀ ρ' W' u, Rel C ρ' s' W' → Way ρ s W ρ' s' W' → VR ρ' v u → N (a.put o.dst u) W') : o.wp C.P a W N Q := by
  cases st with
  | val x =>
    obtain ⟨rfl, rfl⟩ := hg
    obtain ⟨u, hu, hr⟩ := val_sound hE h
    exact (wp_ok (hr W) (hN ρ W u hR Way.refl hu))
  | pure r =>
    obtain ⟨hr, rfl⟩ := hg
    obtain ⟨u, hu, hr⟩ := pure_sound hE h hr
    exact (wp_ok (hr W) (hN ρ W u hR Way.refl hu))
  | rd w g =>
    obtain ⟨rfl, u, hu, hr⟩ := rd_sound (W := W) (B0 := C.w0.heap.size) hE h hg fun x p ob _ h1 h2 => hR.con x p ob h1 h2
    exact (wp_ok hr (hN ρ W u hR Way.refl hu))
  | al g =>
    obtain ⟨cells, cs, e, rfl, hc, _, hr⟩ := al_sound (ρ := ρ) hE h hg
    obtain ⟨u, hu, hv⟩ := hr W
    obtain ⟨h1, h2⟩ := hR.alloc (hfree s.n (Nat.le_refl _) (by rw [St.push_n]; omega)) (W' := W.alloc (.cells cs e)) (cells := cells) (cs := cs) (e := e) rfl rfl rfl rfl (fun j x hx => by
      obtain ⟨y, hy, hr⟩ := All2_get j x hc hx
      exact ⟨y, by simpa using hy, hr⟩) (by rw [All2_length hc]; simp)
    exact (wp_ok hu (hN _ _ u h1 h2 (hv _ (upd_self _ _ _))))
  | mu g => exact mu_sound hR hE h hg hfree hN
  | call f args => exact (call_sound hR hE h hg hfree hN)
/-! ### Guards -/
theorem yielded_of {ops : Array Oper} {j t : Nat} {b : Bool} (hd : dstOf ops j = some t) (hv : a.tmps.getD t undef = .bool b) : yielded ops a.tmps j = some b := by
  unfold dstOf at hd
  unfold yielded
  rw [hd]
  cases ht : a.tmps[t]? with
  | none => simp [ht, undef] at hv
  | some x => simp [ht] at hv; subst hv; simp [ht]
theorem yielded_undef {ops : Array Oper} {j t : Nat} (hd : dstOf ops j = some t) (hv : a.tmps.getD t undef = undef) : yielded ops a.tmps j = none := by
  unfold dstOf at hd
  unfold yielded
  rw [hd]
  cases ht : a.tmps[t]? with
  | none => simp [ht]
  | some x => simp [ht] at hv; subst hv; simp [ht, undef]
/-- What the guard says, the machine sees. -/
theorem gdd_cases {ops : Array Oper} {o : Oper} {m : (Value → Q) → Q} {K : Value → Q} (hE : VRE ρ env a) (h : gdd ops env o m K s) :
    (Region.wanted o (yielded ops a.tmps) = true ∧ m K s) ∨ (Region.wanted o (yielded ops a.tmps) = false ∧ K undef s) := by
  unfold gdd at h
  unfold Region.wanted
  cases hg : o.guard with
  | none => simp only [hg] at h; exact .inl ⟨rfl, h⟩
  | some jw =>
    obtain ⟨j, want⟩ := jw
    simp only [hg] at h
    cases hd : dstOf ops j with
    | none => simp only [hd] at h
    | some t =>
      simp only [hd] at h
      have hv := hE t
      rcases h with ⟨h1, h2⟩ | ⟨h1 | h1, h2⟩
      · rw [h1] at hv
        exact .inl ⟨by simp [yielded_of hd (VR_bool hv)], h2⟩
      · rw [h1] at hv
        exact .inr ⟨by simp [yielded_of hd (VR_bool hv)], h2⟩
      · rw [h1] at hv
        have : a.tmps.getD t undef = undef := by
          obtain ⟨us, hu, hus⟩ := hv
          rw [hu]
          cases us with | mk l => cases l with
            | nil => rfl
            | cons _ _ => exact hus.elim
        exact .inr ⟨by simp [yielded_undef hd this], h2⟩
theorem VR_undef : VR ρ undef undef := ⟨#[], rfl, trivial⟩
end
end Go.Proofs.Ytmikdglafmfnfaa.Eng
