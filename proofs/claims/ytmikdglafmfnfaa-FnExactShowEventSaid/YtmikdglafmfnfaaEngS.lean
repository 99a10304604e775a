/- The engine's truth, last part: a function's text gives its call. -/
import Derived.Test.YtmikdglafmfnfaaEngN
namespace Go.Proofs.Ytmikdglafmfnfaa.Eng
open Go Go.RowKit
set_option linter.unusedVariables false
set_option linter.unusedSimpArgs false
/-! ### Loops -/
def LW (P : Program) (c : Code) (Q : Exit → Act → World → Prop) (a : Act) (w : World) : Prop := ∀ (b : Frame) (k : List Item) (cs : List Frame),
  ∃ e a' w', Q e a' w' ∧ Arrives P (lone (b.at a (.code c :: .inLoop c :: k)) cs w) b k cs e a' w'
theorem LW_fold {P : Program} {c : Code} {Q : Exit → Act → World → Prop} {a : Act} {w : World} (h : c.wp P (Exit.then (LW P c Q) Q) a w) : LW P c Q a w := by
  intro b k cs
  obtain ⟨e, a₁, w₁, hq, harr⟩ := h b (.inLoop c :: k) cs
  cases e with
  | normal =>
    obtain ⟨e₂, a₂, w₂, hq₂, harr₂⟩ := hq b k cs
    exact ⟨e₂, a₂, w₂, hq₂, .of_steps (Steps.trans harr (.one step_inLoop)) harr₂⟩
  | exit id => exact ⟨_, a₁, w₁, hq, .pass (x := .inLoop c) rfl (fun _ _ => .inl (by simp)) harr⟩
  | goto l => exact ⟨_, a₁, w₁, hq, .pass (x := .inLoop c) rfl (fun _ _ => .inl (by simp)) harr⟩
  | ret => exact ⟨_, a₁, w₁, hq, .pass (x := .inLoop c) rfl (fun _ _ => .inl (by simp)) harr⟩
  | panic ch => exact ⟨_, a₁, w₁, hq, .pass (x := .inLoop c) rfl (fun _ _ => .inl (by simp)) harr⟩
  | outgrown => exact ⟨_, a₁, w₁, hq, .pass (x := .inLoop c) rfl (fun _ _ => .inl (by simp)) harr⟩
theorem wp_of_LW {P : Program} {c : Code} {Q : Exit → Act → World → Prop} {a : Act} {w : World} (h : LW P c Q a w) : (Code.loop c).wp P Q a w := by
  intro b k cs
  obtain ⟨e, a', w', hq, harr⟩ := h b k cs
  exact ⟨e, a', w', hq, .of_steps (.one step_loop) harr⟩
section
variable {C : Ctx} {B : Start}
theorem lk_inj {ρ : Rho} {env : Env} {a : Act} (hE : VRE ρ env a) : ∀ (L : List Nat) (i : Nat) (xs : List Value), (∀ j t, L[j]? = some t → nx xs (i + j) = lk env t ∨ nx xs (i + j) = wild) → VRE ρ (inj L i xs) a
  | [], i, xs, _ => fun t => VR_wild _ _
  | l :: L, i, xs, h => fun t => by
    simp only [inj, lk_cons]
    by_cases ht : l = t
    · subst ht
      rw [if_pos rfl]
      rcases h 0 l rfl with h0 | h0
      · simp only [Nat.add_zero] at h0; rw [h0]; exact hE l
      · simp only [Nat.add_zero] at h0; rw [h0]; exact VR_wild _ _
    · rw [if_neg ht]
      exact lk_inj hE L (i + 1) xs (fun j t hj => by have := h (j + 1) t (by simpa using hj); rwa [show i + (j + 1) = i + 1 + j by omega] at this) t
theorem VRE_proj {ρ : Rho} {env : Env} {a : Act} (hE : VRE ρ env a) (L : List Nat) : VRE ρ (inj L 0 (proj L env)) a :=
  lk_inj hE L 0 _ fun j t hj => .inl (by simp [nx, proj, hj])
theorem Here.env {ρ : Rho} {s : St} {W : World} {env env' : Env} {a : Act} (h : Here C B ρ s W env a) (hE : VRE ρ env' a) : Here C B ρ s W env' a := ⟨h.rel, hE, h.size, h.defers, h.way, h.free⟩
theorem Here.drew {ρ : Rho} {s : St} {W : World} {env : Env} {a : Act} (h : Here C B ρ s W env a) : Here C B ρ s { W with drawn := W.drawn + 1 } env a :=
  ⟨⟨h.rel.con, h.rel.inj, h.rel.bel.drew⟩, h.vre, h.size, h.defers, ⟨h.way.n, h.way.sub, h.way.agree, h.way.size, h.way.frame, h.way.own⟩, h.free⟩
def exOf : Ex → Exit
  | .nor => .normal
  | .ext id => .exit id
  | .rt => .ret
theorem exec_sound (hm : C.P.follows .mixedOrders = true) {an : List (Nat × List Nat)} {rm : Nat} : ∀ (c : Code), fits B.nt c = true → ∀ (Q : Exit → Act → World → Prop) (κ : Kap) (env : Env) (lo : Nat) (exs : List (Nat × Nat)) (s : St) (ρ : Rho) (W : World) (a : Act),
    (∀ e, KS C B (Q (exOf e)) (κ e)) → exec C an rm B.nt c env lo exs κ s → Here C B ρ s W env a → c.wp C.P Q a W
  | .skip, _, Q, κ, env, lo, exs, s, ρ, W, a, hκ, h, hh => wp_skip ((hκ .nor).2 env s ρ W a h hh)
  | .region id ops false, hf, Q, κ, env, lo, exs, s, ρ, W, a, hκ, h, hh => by
    have := runOps_sound hf (hκ .nor) ops.toList 0 (by simp) env s ρ W a h hh
    exact wp_region (by rw [List.range_eq_range']; simpa using this)
  | .region id ops true, hf, Q, κ, env, lo, exs, s, ρ, W, a, hκ, h, hh => by
    simp only [exec] at h
    cases hl : lookL an id with
    | none => rw [hl] at h; exact h.elim
    | some L =>
      rw [hl] at h
      cases hd : drawOk L ops 0 ops.toList with
      | false => simp only [hd] at h
      | true =>
        simp only [hd] at h
        exact wp_region_any hm (drawOps_sound hf hd (hκ .nor) h hh.drew)
  | .seq x y, hf, Q, κ, env, lo, exs, s, ρ, W, a, hκ, h, hh => by
    simp only [fits, Bool.and_eq_true] at hf
    simp only [exec] at h
    refine wp_seq ?_
    cases he : Nat.ble (ends x) 1 with
    | true =>
      rw [he] at h
      refine exec_sound hm x hf.1 _ _ env _ _ s ρ W a (fun e => ?_) h hh
      cases e with
      | nor =>
        refine ⟨fun env' s' h' => ?_, fun env' s' ρ' W' a' h' hh' => exec_sound hm y hf.2 Q κ env' _ _ s' ρ' W' a' hκ h' hh'⟩
        obtain ⟨e, env2, s2, hn, h2, _⟩ := lin_exec y env' _ _ _ s' h'
        exact Nat.le_trans hn ((hκ e).1 _ _ h2)
      | ext i => exact hκ (.ext i)
      | rt => exact hκ .rt
    | false =>
      rw [he] at h
      refine exec_sound hm x hf.1 _ _ env _ _ s ρ W a (fun e => ?_) h hh
      cases e with
      | nor =>
        refine ⟨fun env' s' h' => ?_, fun env' s' ρ' W' a' h' hh' => exec_sound hm y hf.2 Q κ _ _ _ s' ρ' W' a' hκ h' (hh'.env (VRE_proj hh'.vre _))⟩
        obtain ⟨e, env2, s2, hn, h2, _⟩ := lin_exec y _ _ _ _ s' h'
        exact Nat.le_trans hn ((hκ e).1 _ _ h2)
      | ext i => exact hκ (.ext i)
      | rt => exact hκ .rt
  | .cond c x y, hf, Q, κ, env, lo, exs, s, ρ, W, a, hκ, h, hh => by
    simp only [fits, Bool.and_eq_true] at hf
    simp only [exec] at h
    have hv := ev_VR hh.vre c
    rcases h with ⟨hc, h⟩ | ⟨hc, h⟩
    · rw [hc] at hv
      exact wp_cond_true (VR_bool hv) (exec_sound hm x hf.1 Q κ env _ _ s ρ W a hκ h hh)
    · rw [hc] at hv
      exact wp_cond_false (VR_bool hv) (exec_sound hm y hf.2 Q κ env _ _ s ρ W a hκ h hh)
  | .block id c, hf, Q, κ, env, lo, exs, s, ρ, W, a, hκ, h, hh => by
    simp only [fits] at hf
    simp only [exec] at h
    refine wp_block (exec_sound hm c hf _ _ env _ _ s ρ W a (fun e => ?_) h hh)
    cases e with
    | nor => exact hκ .nor
    | ext i =>
      show KS C B (fun a w => if i = id then Q .normal a w else Q (.exit i) a w) (match Nat.beq i id with
        | true => κ .nor
        | false => κ (.ext i))
      cases hi : Nat.beq i id with
      | true =>
        have : i = id := Nat.eq_of_beq_eq_true hi
        simp only [this, if_true]
        exact hκ .nor
      | false =>
        have : i ≠ id := fun hh => by subst hh; simp at hi
        simp only [this, if_false]
        exact hκ (.ext i)
    | rt => exact hκ .rt
  | .loop c, hf, Q, κ, env, lo, exs, s, ρ, W, a, hκ, h, hh => by
    simp only [fits] at hf
    simp only [exec] at h
    refine wp_of_LW (h (fun xs s => s.n ≤ B.top ∧ ∀ ρ W a, Here C B ρ s W (inj (bitsOf (live rm c (live rm c 0 exs) exs) B.nt) 0 xs) a → LW C.P c Q a W) (fun xs s' hF => ?_) |>.2 ρ W a (hh.env (VRE_proj hh.vre _)))
    refine ⟨?_, fun ρ' W' a' hh' => LW_fold (exec_sound hm c hf _ _ _ _ _ s' ρ' W' a' (fun e => ?_) hF hh')⟩
    · obtain ⟨e, env2, s2, hn, h2, _⟩ := lin_exec c _ _ _ _ s' hF
      cases e with
      | nor => exact Nat.le_trans hn h2.1
      | ext i => exact Nat.le_trans hn ((hκ (.ext i)).1 _ _ h2)
      | rt => exact Nat.le_trans hn ((hκ .rt).1 _ _ h2)
    · cases e with
      | nor => exact ⟨fun env1 s1 h1 => h1.1, fun env1 s1 ρ1 W1 a1 h1 hh1 => h1.2 ρ1 W1 a1 (hh1.env (VRE_proj hh1.vre _))⟩
      | ext i => exact hκ (.ext i)
      | rt => exact hκ .rt
  | .exit id, _, Q, κ, env, lo, exs, s, ρ, W, a, hκ, h, hh => wp_exit ((hκ (.ext id)).2 env s ρ W a h hh)
  | .ret, _, Q, κ, env, lo, exs, s, ρ, W, a, hκ, h, hh => wp_ret ((hκ .rt).2 env s ρ W a h hh)
  | .rangeFunc .., _, Q, κ, env, lo, exs, s, ρ, W, a, hκ, h, hh => h.elim
  | .scope .., _, Q, κ, env, lo, exs, s, ρ, W, a, hκ, h, hh => h.elim
  | .label .., _, Q, κ, env, lo, exs, s, ρ, W, a, hκ, h, hh => h.elim
  | .goto .., _, Q, κ, env, lo, exs, s, ρ, W, a, hκ, h, hh => h.elim
  | .refuse .., _, Q, κ, env, lo, exs, s, ρ, W, a, hκ, h, hh => h.elim
/-! ### Results -/
theorem notTup_V2 {ρ : Rho} {v u : Value} (h : notTup v = true) (hv : VR ρ v u) : V2 ρ v u := by
  cases v with
  | tuple vs => cases h
  | _ => exact hv
theorem All2_V2 {ρ : Rho} : ∀ {l m : List Value}, l.all notTup = true → All2 (VR ρ) l m → All2 (V2 ρ) l m
  | [], [], _, _ => trivial
  | x :: xs, y :: ys, h, hv => by
    simp only [List.all_cons, Bool.and_eq_true] at h
    exact ⟨notTup_V2 h.1 hv.1, All2_V2 h.2 hv.2⟩
  | [], _ :: _, _, h => h.elim
  | _ :: _, [], _, h => h.elim
def resOne (tmps : Array Value) : ResultVar → Sem Value
  | .tmp t => pure (tmps.getD t undef)
  | .cell a t => do loadVar t (← asAddr (tmps.getD a undef))
theorem ret_sound {ρ : Rho} {s : St} {W : World} {env : Env} {a : Act} {v : Value} {s' : St} (hR : Rel C ρ s W) (hE : VRE ρ env a) : ∀ (rs : List ResultVar) (acc us : List Value), All2 (VR ρ) acc us → retQ C.P rs acc env (fun v' s'' => v' = v ∧ s'' = s') s →
    s' = s ∧ ∃ ws, (rs.mapM (resOne a.tmps)).run C.P W = .ok ws W ∧ ∃ accs, accs.length = acc.length + rs.length ∧ All2 (VR ρ) accs (us ++ ws) ∧ (accs.length = 1 → ∃ x, accs = [x] ∧ v = x) ∧ (accs.length ≠ 1 → accs.all notTup = true ∧ v = .tuple accs.toArray)
  | [], [], us, hr, h => ⟨h.2.2.symm, [], by simp, [], rfl, by simpa using hr, fun h1 => by simp at h1, fun _ => ⟨h.1, h.2.1.symm⟩⟩
  | [], [x], us, hr, h => ⟨h.2.symm, [], by simp, [x], rfl, by simpa using hr, fun _ => ⟨x, rfl, h.1.symm⟩, fun h1 => by simp at h1⟩
  | [], x :: y :: l, us, hr, h => ⟨h.2.2.symm, [], by simp, x :: y :: l, rfl, by simpa using hr, fun h1 => by simp at h1, fun _ => ⟨h.1, h.2.1.symm⟩⟩
  | .tmp t :: r, acc, us, hr, h => by
    obtain ⟨h1, ws, h2, accs, h3, h4, h5⟩ := ret_sound hR hE r (acc ++ [lk env t]) (us ++ [a.tmps.getD t undef]) (All2_append hr ⟨hE t, trivial⟩) h
    refine ⟨h1, a.tmps.getD t undef :: ws, ?_, accs, by simp at h3 ⊢; omega, by simpa using h4, h5⟩
    rw [List.mapM_cons]
    simp only [resOne, Sem.run_bind, Sem.run_pure, Result.andThen_ok, h2]
  | .cell b t :: r, acc, us, hr, h => by
    simp only [retQ] at h
    cases hs : szT C.P t with
    | none => rw [hs] at h; exact h.elim
    | some sz =>
      cases ha : aggT C.P t with
      | none => rw [hs, ha] at h; exact h.elim
      | some ag =>
        rw [hs, ha] at h
        obtain ⟨x, s1, hg, h⟩ := h
        obtain ⟨rfl, w, hw, hrun⟩ := run_ld (B0 := C.w0.heap.size) (W := W) hs ha hg (hE b) fun x p ob _ h1 h2 => hR.con x p ob h1 h2
        obtain ⟨h1, ws, h2, accs, h3, h4, h5⟩ := ret_sound hR hE r (acc ++ [x]) (us ++ [w]) (All2_append hr ⟨hw, trivial⟩) h
        refine ⟨h1, w :: ws, ?_, accs, by simp at h3 ⊢; omega, by simpa using h4, h5⟩
        have hadd : ∃ q, a.tmps.getD b undef = .pointer (some q) := by
          unfold ld at hg
          split at hg
          · rename_i hx
            have := hE b
            rw [hx] at this
            obtain ⟨p, _, hp⟩ := VR_pt this
            exact ⟨_, hp⟩
          · cases hg
        obtain ⟨q, hq⟩ := hadd
        rw [hq] at hrun
        rw [List.mapM_cons]
        have hrun' : (loadVar t q).run C.P W = .ok w W := by simpa [Instr.loadAt, Instr.sureAddr] using hrun
        simp only [resOne, Sem.run_bind, hq, asAddr, Sem.run_pure, Result.andThen_ok, hrun', h2]
theorem results_sound {ρ : Rho} {s : St} {W : World} {env : Env} {a : Act} {v : Value} {s' : St} {fn : Func} (hR : Rel C ρ s W) (hE : VRE ρ env a) (h : retQ C.P fn.results.toList [] env (fun v' s'' => v' = v ∧ s'' = s') s) :
    s' = s ∧ ∃ u, (results fn a.tmps).run C.P W = .ok u W ∧ VR ρ v u := by
  obtain ⟨h1, ws, h2, accs, h3, h4, h5, h6⟩ := ret_sound hR hE fn.results.toList [] [] trivial h
  refine ⟨h1, if h : ws.toArray.size = 1 then ws.toArray[0] else .tuple ws.toArray, ?_, ?_⟩
  · have e : results fn a.tmps = (fn.results.mapM (resOne a.tmps) >>= fun vs => pure (if h : vs.size = 1 then vs[0] else .tuple vs)) := by
      unfold results
      congr 1
    rw [e, Sem.run_bind, Array.mapM_eq_mapM_toList, Sem.run_map, h2]
    rfl
  · have hl := All2_length h4
    simp only [List.nil_append] at h4 hl
    by_cases hw : ws.length = 1
    · obtain ⟨x, rfl, rfl⟩ := h5 (by omega)
      obtain ⟨w, rfl⟩ : ∃ w, ws = [w] := by
        cases ws with
        | nil => simp at hw
        | cons w r => cases r with
          | nil => exact ⟨w, rfl⟩
          | cons _ _ => simp at hw
      exact h4.1
    · obtain ⟨h7, rfl⟩ := h6 (by omega)
      rw [dif_neg (by simpa using hw)]
      exact ⟨ws.toArray, rfl, by simpa using All2_V2 h7 h4⟩
theorem VRE_args {ρ : Rho} : ∀ (args vs : List Value) (i : Nat) (rest : List Value) (pre : List Value), pre.length = i → All2 (VR ρ) args vs → VRE ρ (args0 i args) ⟨(pre ++ vs ++ rest).toArray, []⟩
  | [], [], i, rest, pre, _, _ => fun t => VR_wild _ _
  | x :: xs, y :: ys, i, rest, pre, hp, h => fun t => by
    simp only [args0, lk_cons]
    by_cases ht : i = t
    · subst ht
      rw [if_pos rfl]
      have : ((pre ++ y :: ys ++ rest).toArray).getD i undef = y := by
        subst hp
        simp
      rw [this]; exact h.1
    · rw [if_neg ht]
      have := VRE_args xs ys (i + 1) rest (pre ++ [y]) (by simp [hp]) h.2 t
      simpa using this
  | [], _ :: _, _, _, _, _, h => h.elim
  | _ :: _, [], _, _, _, _, h => h.elim
end
theorem cl_of_run {C : Ctx} {f : FuncId} {fn : Func} {args : List Value} {K : Value → Q} {s : St} {T : Q} (an : List (Nat × List Nat)) (hf : C.P.funcs[f]? = some fn) (hm : C.P.follows .mixedOrders = true)
    (hn : fnFits fn args.length = true) (he : runF C an fn args K = T) (h : T s) : cl C f args K s := by
  rw [← he] at h
  unfold runF at h
  unfold fnFits at hn
  cases hb : fn.body with
  | none => rw [hb] at h; exact h.elim
  | some c =>
    rw [hb] at h hn
    simp only [Bool.and_eq_true] at hn
    obtain ⟨e, env', s1, hle, h1, h2⟩ := lin_exec c _ _ _ _ s h
    have hfin : ∃ v, retQ C.P fn.results.toList [] env' (fun v' s'' => v' = v ∧ s'' = s1) s1 ∧ K v s1 ∧ (e = .nor ∨ e = .rt) := by
      have key : retQ C.P fn.results.toList [] env' K s1 → ∃ v, retQ C.P fn.results.toList [] env' (fun v' s'' => v' = v ∧ s'' = s1) s1 ∧ K v s1 := by
        intro hq
        obtain ⟨v, s2, hn2, hv, hr⟩ := lin_ret (C := C) fn.results.toList [] env' K s1 hq
        have hq2 := hr (fun v' s'' => v' = v ∧ s'' = s2) ⟨rfl, rfl⟩
        have hs2 : s2 = s1 := by
          have hE0 : VRE (fun _ => none) [] ⟨#[], []⟩ := fun t => trivial
          clear hr hv hn2 hq
          revert hq2
          generalize fn.results.toList = rs
          generalize ([] : List Value) = acc
          induction rs generalizing acc with
          | nil =>
            intro hq2
            cases acc with
            | nil => exact hq2.2.2.symm
            | cons x l => cases l with
              | nil => exact hq2.2.symm
              | cons y l => exact hq2.2.2.symm
          | cons r rs ih =>
            intro hq2
            cases r with
            | tmp t => exact ih _ hq2
            | cell b t =>
              simp only [retQ] at hq2
              cases hs : szT C.P t with
              | none => rw [hs] at hq2; exact hq2.elim
              | some sz =>
                cases ha : aggT C.P t with
                | none => rw [hs, ha] at hq2; exact hq2.elim
                | some ag =>
                  rw [hs, ha] at hq2
                  obtain ⟨x, s3, hg, hq2⟩ := hq2
                  have := ld_same hg
                  subst this
                  exact ih _ hq2
        subst hs2
        exact ⟨v, hq2, hv⟩
      cases e with
      | nor => obtain ⟨v, hv1, hv2⟩ := key h1; exact ⟨v, hv1, hv2, .inl rfl⟩
      | ext i => exact h1.elim
      | rt => obtain ⟨v, hv1, hv2⟩ := key h1; exact ⟨v, hv1, hv2, .inr rfl⟩
    obtain ⟨v, hv, hK, he'⟩ := hfin
    refine ⟨v, s1, ⟨hle, fun ρ W vs hfree hR hargs => ?_⟩, hK⟩
    have hex := h2 (fun e1 env1 s2 => (e1 = .nor ∨ e1 = .rt) ∧ s2 = s1 ∧ retQ C.P fn.results.toList [] env1 (fun v' s'' => v' = v ∧ s'' = s1) s2) ⟨he', rfl, hv⟩
    have hvl : vs.length ≤ fn.ntmps := by rw [← All2_length hargs]; exact Nat.le_of_ble_eq_true hn.1
    refine calls_of_wp hf hb (exec_sound (B := ⟨fn.ntmps, s1.n, ρ, s, W⟩) hm c hn.2 _ _ _ _ _ s ρ W _ (fun e => ?_) hex ⟨hR, ?_, ?_, rfl, Way.refl, hfree⟩)
    · have fin : ∀ env2 s2 ρ2 W2 a2, retQ C.P fn.results.toList [] env2 (fun v' s'' => v' = v ∧ s'' = s1) s2 → Here C ⟨fn.ntmps, s1.n, ρ, s, W⟩ ρ2 s2 W2 env2 a2 →
          a2.defers = [] ∧ ∃ u, (results fn a2.tmps).run C.P W2 = .ok u W2 ∧ ∃ ρ', Way ρ s W ρ' s1 W2 ∧ Rel C ρ' s1 W2 ∧ VR ρ' v u := by
        intro env2 s2 ρ2 W2 a2 hq hh
        obtain ⟨rfl, u, hu, hvr⟩ := results_sound hh.rel hh.vre hq
        exact ⟨hh.defers, u, hu, ρ2, hh.way, hh.rel, hvr⟩
      cases e with
      | nor => exact ⟨fun env2 s2 hq => by rw [hq.2.1]; exact Nat.le_refl _, fun env2 s2 ρ2 W2 a2 hq hh => fin env2 s2 ρ2 W2 a2 hq.2.2 hh⟩
      | ext i => exact ⟨fun env2 s2 hq => (by rcases hq.1 with h | h <;> cases h), fun env2 s2 ρ2 W2 a2 hq hh => (by rcases hq.1 with h | h <;> cases h)⟩
      | rt => exact ⟨fun env2 s2 hq => by rw [hq.2.1]; exact Nat.le_refl _, fun env2 s2 ρ2 W2 a2 hq hh => fin env2 s2 ρ2 W2 a2 hq.2.2 hh⟩
    · have := VRE_args args vs 0 (List.replicate (fn.ntmps - vs.length) undef) [] rfl hargs
      have e : vs.toArray ++ Array.replicate (fn.ntmps - vs.toArray.size) undef = ([] ++ vs ++ List.replicate (fn.ntmps - vs.length) undef).toArray := by
        apply Array.toList_inj.1; simp
      rw [e]
      exact this
    · simp; omega
#print axioms cl_of_run
end Go.Proofs.Ytmikdglafmfnfaa.Eng
