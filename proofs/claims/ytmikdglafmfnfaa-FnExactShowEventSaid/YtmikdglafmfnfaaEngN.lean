/- The engine's truth, fourteenth part: a region whose order is drawn. -/
import Derived.Test.YtmikdglafmfnfaaEngM
namespace Go.Proofs.Ytmikdglafmfnfaa.Eng
open Go Go.RowKit
set_option linter.unusedVariables false
set_option linter.unusedSimpArgs false
section
variable {C : Ctx} {B : Start} {ops : Array Oper} {L : List Nat} {vals : Nat → Value} {sts : Nat → St} {envs : Nat → Env} {ρ1 ρ : Rho} {W1 W : World} {ls : Array Bool} {e : Nat} {a : Act}
theorem wanted_runs {o : Oper} {env : Env} (hl : ∀ t ∈ o.looksAt ops, VR ρ (lk env t) (a.tmps.getD t undef)) (h : Runs ops env o) : Region.wanted o (yielded ops a.tmps) = true := by
  unfold Region.wanted
  rcases h with h | ⟨j, want, t, h1, h2, h3⟩
  · rw [h]
  · rw [h1]
    have hv := hl t (List.mem_append_right _ (by rw [h1]; simp only; unfold dstOf at h2; rw [h2]; simp))
    rw [h3] at hv
    simp [yielded_of h2 (VR_bool hv)]
theorem wanted_skips {o : Oper} {env : Env} (hl : ∀ t ∈ o.looksAt ops, VR ρ (lk env t) (a.tmps.getD t undef)) (h : Skips ops env o) : Region.wanted o (yielded ops a.tmps) = false := by
  unfold Region.wanted
  obtain ⟨j, want, t, h1, h2, h3⟩ := h
  rw [h1]
  have hv := hl t (List.mem_append_right _ (by rw [h1]; simp only; unfold dstOf at h2; rw [h2]; simp))
  rcases h3 with h3 | h3
  · rw [h3] at hv
    simp [yielded_of h2 (VR_bool hv)]
  · rw [h3] at hv
    have : a.tmps.getD t undef = undef := by
      obtain ⟨us, hu, hus⟩ := hv
      rw [hu]
      cases us with | mk l => cases l with
        | nil => rfl
        | cons _ _ => exact hus.elim
    simp [yielded_undef h2 this]
/-- Where everything is listed, the region has gone as its text. -/
theorem Mid.done (hO : Ord L ops) (T : Tr C ops L vals sts envs) (M : Mid C B ops vals sts envs ρ1 W1 ls e ρ W a) (hall : ∀ k, k < ops.size → On ls k) (hw1 : Way B.ρ B.s B.W ρ1 (sts 0) W1) (hf1 : Free ρ1 (sts 0).n B.top) (htop : (sts ops.size).n ≤ B.top) :
    Here C B ρ (sts ops.size) W (envs ops.size) a := by
  have same : ∀ x, x < (sts ops.size).n → ∃ i, Idx ops sts e x i ∧ (sts i).get x = (sts ops.size).get x := by
    intro x hx
    obtain ⟨i, hi, _⟩ := M.idx T (Nat.le_refl _) hx
    refine ⟨i, hi, (T.chain ops.size i hi.2.1 (Nat.le_refl _) hi.2.2.1 fun k h4 h5 hk => ?_).symm⟩
    have := M.last.2 k (hall k h5) hk
    have := hi.1; omega
  have hmono := T.mono ops.size 0 (Nat.zero_le _) (Nat.le_refl _)
  refine ⟨⟨fun x p ob hx hob => ?_, fun x x' p p' ob ob' hx hx' ho ho' hp hp' hb => ?_, M.bel⟩, fun t => M.look_of T (Nat.le_refl _) fun k hk => ?_, M.size, M.defers, hw1.trans ⟨hmono, M.sub, M.out, M.wsz, M.frame, fun k hk ⟨y, q, ob2, h1, h2, h3, h4⟩ => ?_⟩, fun x h1 h2 => ?_⟩
  · obtain ⟨i, hi, heq⟩ := same x (St.get_lt hob)
    exact M.con x p i ob hx hi (by rw [heq]; exact hob)
  · obtain ⟨i, hi, heq⟩ := same x (St.get_lt ho)
    obtain ⟨i', hi', heq'⟩ := same x' (St.get_lt ho')
    exact M.inj x x' p p' i i' ob ob' hx hx' hi hi' (by rw [heq]; exact ho) (by rw [heq']; exact ho') hp hp' hb
  · obtain ⟨o, ho, _⟩ := dst_get hk
    have hks := (Array.getElem?_eq_some_iff.1 ho).1
    exact ⟨fun _ => hks, fun _ => hall k hks⟩
  · obtain ⟨i, hi, heq⟩ := same y (St.get_lt h2)
    exact M.own k hk ⟨y, q, i, ob2, h1, hi, by rw [heq]; exact h2, h3, h4⟩
  · rw [M.out x (.inr h1)]; exact hf1 x (by omega) h2
theorem On_of_true {i : Nat} (hl : ls.size = ops.size) (hi : i < ops.size) (h : ls.getD i true = true) : On ls i := by
  have : i < ls.size := by omega
  unfold On
  simp [this] at h ⊢
  exact h
theorem ready_all (hO : Ord L ops) (hl : ls.size = ops.size) (hr : Region.ready .any ops ls = []) : ∀ i, i < ops.size → On ls i := by
  intro i
  induction i using Nat.strongRecOn with
  | _ i ih =>
    intro hi
    cases hg : ls.getD i true with
    | true => exact On_of_true hl hi hg
    | false =>
      have hmem : i ∈ Region.ready .any ops ls := by
        rw [mem_ready]
        have hget : ops[i]? = some ops[i] := by rw [Array.getElem?_eq_getElem hi]
        refine ⟨hg, ops[i], hget, fun ed he hb => ?_⟩
        have hlt := hO.down i _ hget ed he hb
        exact ih ed.on hlt (by omega)
      rw [hr] at hmem; cases hmem
theorem any_sound {Q : Exit → Act → World → Prop} {K : Env → Eng.Q} (hfit : opsFit B.nt ops = true) (hO : Ord L ops) (T : Tr C ops L vals sts envs) (hk : KS C B (Q .normal) K) (hK : K (envs ops.size) (sts ops.size))
    (hw1 : Way B.ρ B.s B.W ρ1 (sts 0) W1) (hf1 : Free ρ1 (sts 0).n B.top) : ∀ (fuel : Nat) (ls : Array Bool) (e : Nat) (ρ : Rho) (W : World) (a : Act), Mid C B ops vals sts envs ρ1 W1 ls e ρ W a → left ls ops.size ≤ fuel → wpAny C.P .any ops Q fuel ls a W := by
  have htop := hk.1 _ _ hK
  have fin : ∀ {ls e ρ W a}, Mid C B ops vals sts envs ρ1 W1 ls e ρ W a → (∀ k, k < ops.size → On ls k) → Q .normal a W := fun M hall => hk.2 _ _ _ _ _ hK (M.done hO T hall hw1 hf1 htop)
  intro fuel
  induction fuel with
  | zero =>
    intro ls e ρ W a M hleft
    have hz := left_zero ops.size (by omega : left ls ops.size = 0)
    refine ⟨?_, fin M fun k hk => On_of_true M.lsz hk (hz k hk)⟩
    cases hr : Region.ready .any ops ls with
    | nil => rfl
    | cons x xs =>
      have hx : x ∈ Region.ready .any ops ls := by rw [hr]; simp
      obtain ⟨h1, o, ho, _⟩ := mem_ready.1 hx
      have := hz x (Array.getElem?_eq_some_iff.1 ho).1
      rw [h1] at this; cases this
  | succ fuel ih =>
    intro ls e ρ W a M hleft
    refine ⟨fun hr => fin M (ready_all hO M.lsz hr), fun i hi => ?_⟩
    obtain ⟨h1, o, ho, hall⟩ := mem_ready.1 hi
    have h : Nxt ops ls i o := ⟨ho, h1, hall⟩
    have hlt := h.lt
    have hleft' : left (ls.setIfInBounds i true) ops.size ≤ fuel := by
      have := left_set h1 ops.size
      rw [if_pos hlt] at this; omega
    have hd := opsFit_get hfit ho
    obtain ⟨st, hat⟩ := T.at_ i o (Nat.zero_le _) ho
    have hl : ∀ t ∈ o.looksAt ops, VR ρ (lk (envs i) t) (a.tmps.getD t undef) := fun t ht => M.look_of T (Nat.le_of_lt hlt) fun k hkd => h.writers hO M.shut (.inl ht) hkd
    obtain ⟨env', hE, hop, _⟩ := only (P := C.P) hl
    rw [hat.op] at hop
    unfold wpOp
    simp only [ho]
    rcases hat.go with ⟨hr, hg⟩ | ⟨hs, hv, _⟩
    · rw [if_pos (wanted_runs hl hr)]
      have notM : isMu st = false → ¬ IsM C ops envs i := fun hm ⟨o2, st2, ho2, hop2, hmu2, _⟩ => by
        rw [ho] at ho2; cases ho2
        rw [hat.op] at hop2; cases hop2
        rw [hm] at hmu2; cases hmu2
      cases st with
      | val x =>
        obtain ⟨u, hu, hrun⟩ := val_sound hE hop
        rw [← hg.1] at hu
        exact .inl (wp_ok (hrun W) (ih _ _ _ _ _ (M.step0 hO h hd hu (notM rfl)) hleft'))
      | pure x =>
        obtain ⟨u, hu, hrun⟩ := pure_sound hE hop hg.1
        exact .inl (wp_ok (hrun W) (ih _ _ _ _ _ (M.step0 hO h hd hu (notM rfl)) hleft'))
      | rd w g =>
        obtain ⟨_, u, hu, hrun⟩ := rd_sound (W := W) (B0 := C.w0.heap.size) hE hop hg fun x p ob hx hp hob => M.rdCon hO T h hat.op hr hx hp hob
        exact .inl (wp_ok hrun (ih _ _ _ _ _ (M.step0 hO h hd hu (notM rfl)) hleft'))
      | al g =>
        obtain ⟨cells, cs, ty, hs, hc, hv, hrun⟩ := al_sound (ρ := ρ) hE hop hg
        obtain ⟨u, hu, hvr⟩ := hrun W
        have hn1 : (sts (i + 1)).n = (sts i).n + 1 := by rw [hs]; rfl
        have hfi : ρ1 (sts i).n = none := hf1 _ (T.mono i 0 (Nat.zero_le _) (Nat.le_of_lt hlt)) (by
          have := T.mono ops.size (i + 1) hlt (Nat.le_refl _); omega)
        exact .inl (wp_ok hu (ih _ _ _ _ _ (M.stepAl hO T h hd hat.op hs hv hc (hvr _ (upd_self _ _ _)) hfi) hleft'))
      | mu g =>
        have hm : IsM C ops envs i := ⟨o, _, ho, hat.op, rfl, hr⟩
        exact .inl <| stp_sound (M.relAt hO T h hm) hE hop hg (M.freeAt T h fun x h1 h2 => hf1 x h1 (by omega)) (fun ρ' W' u hR hw hv => ih _ _ _ _ _ (M.stepM hO T h hd hm hR hw hv) hleft')
      | call f as =>
        have hm : IsM C ops envs i := ⟨o, _, ho, hat.op, rfl, hr⟩
        exact .inl <| stp_sound (M.relAt hO T h hm) hE hop hg (M.freeAt T h fun x h1 h2 => hf1 x h1 (by omega)) (fun ρ' W' u hR hw hv => ih _ _ _ _ _ (M.stepM hO T h hd hm hR hw hv) hleft')
    · rw [if_neg (by rw [wanted_skips hl hs]; simp)]
      have hnm : ¬ IsM C ops envs i := fun ⟨o2, st2, ho2, hop2, hmu2, hr2⟩ => by
        rw [ho] at ho2; cases ho2
        exact not_both hr2 hs
      exact ih _ _ _ _ _ (M.step0 hO h hd (by rw [hv]; exact VR_undef) hnm) hleft'
end
theorem left_le (ls : Array Bool) : ∀ k, left ls k ≤ k
  | 0 => Nat.le_refl _
  | k + 1 => by
    have := left_le ls k
    simp only [left]
    split <;> omega
theorem drawOps_sound {C : Ctx} {B : Start} {ops : Array Oper} {L : List Nat} {Q : Exit → Act → World → Prop} {K : Env → Eng.Q} (hfit : opsFit B.nt ops = true) (hok : drawOk L ops 0 ops.toList = true) (hk : KS C B (Q .normal) K)
    {env : Env} {s : St} {ρ : Rho} {W : World} {a : Act} (h : drawOps C ops L 0 ops.toList env [] [] K s) (hh : Here C B ρ s W env a) : wpAny C.P .any ops Q ops.size (Array.replicate ops.size false) a W := by
  obtain ⟨vals, sts, envs, he, hs, hK, T⟩ := trace_of ops.toList 0 env [] [] s (by simp) (Nat.zero_le _) h
  have hO := ord_of hok
  subst he
  subst hs
  have hoff : ∀ k, ¬ On (Array.replicate ops.size false) k := fun k hk => by
    unfold On at hk
    by_cases hlt : k < ops.size <;> simp [hlt] at hk
  have near : ∀ x p i, ρ x = some p → Idx ops sts 0 x i → i = 0 := by
    intro x p i hx hi
    have h1 := T.mono ops.size i hi.2.1 (Nat.le_refl _)
    have h2 := hk.1 _ _ hK
    have h3 : x < (sts 0).n := by
      rcases Nat.lt_or_ge x (sts 0).n with h4 | h4
      · exact h4
      · have := hi.2.2.1
        rw [hh.free x h4 (by omega)] at hx; cases hx
    rcases hi.2.2.2 with h4 | h4
    · exact h4
    · have h5 := hi.2.1
      have := T.mono (i - 1) 0 (Nat.zero_le _) (by omega)
      omega
  refine any_sound hfit hO T hk hK hh.way hh.free ops.size _ 0 ρ W a ⟨by simp, fun j o hj => (hoff j hj).elim, hh.size, hh.defers, fun t => .inr ⟨fun k hk => (hoff k hk).elim, hh.vre t⟩, fun x p hx => .inl hx, Sub.refl _, fun _ _ => rfl, ⟨.inl rfl, fun m hm => (hoff m hm).elim⟩, ?_, ?_, hh.rel.bel, Nat.le_refl _, fun _ _ _ => rfl, ?_⟩ ?_
  · intro x p i ob hx hi hob
    obtain rfl := near x p i hx hi
    exact hh.rel.con x p ob hx hob
  · intro x x' p p' i i' ob ob' hx hx' hi hi' ho ho' hp hp' hb
    obtain rfl := near x p i hx hi
    obtain rfl := near x' p' i' hx' hi'
    exact hh.rel.inj x x' p p' ob ob' hx hx' ho ho' hp hp' hb
  · rintro k hk ⟨x, p, i, ob, hx, hi, ho, hp, hb⟩
    obtain rfl := near x p i hx hi
    exact ⟨x, p, ob, hx, ho, hp, hb⟩
  · exact left_le _ _
end Go.Proofs.Ytmikdglafmfnfaa.Eng
