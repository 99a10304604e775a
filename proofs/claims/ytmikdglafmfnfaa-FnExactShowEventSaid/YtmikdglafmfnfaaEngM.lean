/- The engine's truth, thirteenth part: a region whose order is drawn, the steps on memory, and the whole. -/
import Derived.Test.YtmikdglafmfnfaaEngL
namespace Go.Proofs.Ytmikdglafmfnfaa.Eng
open Go Go.RowKit
set_option linter.unusedVariables false
set_option linter.unusedSimpArgs false
section
variable {C : Ctx} {B : Start} {ops : Array Oper} {L : List Nat} {vals : Nat → Value} {sts : Nat → St} {envs : Nat → Env} {ρ1 ρ : Rho} {W1 W : World} {ls : Array Bool} {e : Nat} {a : Act}
/-- A writer in the way of a reader or maker j leaves what j watches. -/
theorem Trace.spare (T : Tr C ops L vals sts envs) {k j : Nat} {o : Oper} {w : Value} (hj : ops[j]? = some o) (hk : IsM C ops envs k) (hu : unord L k j = true) (hne : k ≠ j)
    (hw : (∃ g, opOf C.P (envs j) o = some (.rd w g) ∧ Runs ops (envs j) o) ∨ (j < k ∧ ∃ g, opOf C.P (envs j) o = some (.al g) ∧ w = vals j)) : unch w (sts k) (sts (k + 1)) := by
  obtain ⟨o', st, ho', hop, hmu, hr⟩ := hk
  have hkind : (match o.op with | .load _ _ | .alloc _ | .box _ _ | .buildSlice _ _ _ | .makeSlice _ _ _ | .convert _ _ _ => true | _ => false) = true := by
    rcases hw with ⟨g, h, _⟩ | ⟨_, g, h, _⟩
    · exact kind_rd h
    · exact kind_al h
  have hmt : mets C.P L k 0 ops.toList = true := mets_of ops.toList 0 j o (by simpa using hj) hkind (by simpa using hu) (by simpa using hne)
  rcases Nat.lt_or_gt_of_ne hne with h1 | h1
  · rcases hw with ⟨g, h, hr2⟩ | ⟨h2, _⟩
    · exact T.sooner k j o' o st w g (Nat.zero_le _) h1 ho' hj hop hmu hr hmt h hr2 (by rw [unord_comm]; exact hu)
    · omega
  · refine T.later k j o' o st w (Nat.zero_le _) h1 ho' hj hop hmu hr hmt ?_ hu
    rcases hw with ⟨g, h, hr2⟩ | ⟨_, g, h, hv⟩
    · exact .inl ⟨g, h, hr2⟩
    · exact .inr ⟨g, h, hv⟩
/-- All writers ahead of the last listed one are listed. -/
theorem Mid.upTo (hO : Ord L ops) (M : Mid C B ops vals sts envs ρ1 W1 ls e ρ W a) {k : Nat} (hk : IsM C ops envs k) : On ls k ↔ k < e := by
  constructor
  · exact fun h => M.last.2 k h hk
  · intro hlt
    rcases M.last.1 with h | ⟨m, h, hon, hm⟩
    · omega
    · by_cases hkm : k = m
      · subst hkm; exact hon
      · obtain ⟨o1, st1, ho1, hop1, hmu1, _⟩ := hk
        obtain ⟨o2, st2, ho2, hop2, hmu2, _⟩ := hm
        cases hu : unord L k m with
        | true => exact absurd ⟨mu_writer hop1 hmu1, mu_writer hop2 hmu2⟩ (hO.pair k m o1 o2 (by omega) ho1 ho2 hu).2
        | false =>
          unfold unord at hu
          simp only [Bool.and_eq_false_iff, Bool.not_eq_false'] at hu
          rcases hu with hu | hu
          · have := bef_lt hO k m o1 ho1 hu; omega
          · exact bef_on hO M.shut m k o2 ho2 (fun ed he hb => M.shut m o2 hon ho2 ed he hb) hu
/-- What a reader that comes next reads is what the machine has. -/
theorem Mid.rdCon (hO : Ord L ops) (T : Tr C ops L vals sts envs) (M : Mid C B ops vals sts envs ρ1 W1 ls e ρ W a) {j : Nat} {o : Oper} {w : Value} {g : M1} (h : Nxt ops ls j o) (hop : opOf C.P (envs j) o = some (.rd w g)) (hr : Runs ops (envs j) o)
    {x : Nat} {p : Pl} {ob : Ob} (hx : handle w = some x) (hp : ρ x = some p) (hob : (sts j).get x = some ob) : Con C.w0.heap.size ρ W p ob := by
  have hlt := St.get_lt hob
  have hjs := h.lt
  have hnm : ¬ IsM C ops envs j := fun ⟨o2, st2, ho2, hop2, hmu2, _⟩ => by
    rw [h.get] at ho2; cases ho2; rw [hop] at hop2; cases hop2; cases hmu2
  have spare : ∀ k, IsM C ops envs k → ((On ls k ∧ j < k) ∨ (¬ On ls k ∧ k < j)) → (sts (k + 1)).get x = (sts k).get x := by
    intro k hk hc
    obtain ⟨o2, st2, ho2, hop2, hmu2, hr2⟩ := id hk
    have hu := free_of hO M.shut h.get h.all h.not ho2 hc
    exact T.spare h.get hk hu (by rcases hc with h | h <;> omega) (.inl ⟨g, hop, hr⟩) x hx
  obtain ⟨i, hi, hcase⟩ := M.idx T (Nat.le_of_lt hjs) hlt
  have heq : (sts i).get x = (sts j).get x := by
    rcases hcase with ⟨rfl, hlt2⟩ | ⟨h1, h2⟩
    · rcases Nat.le_total i j with h3 | h3
      · refine (T.chain j i h3 (Nat.le_of_lt hjs) hlt2 fun k h4 h5 hk => spare k hk (.inr ⟨fun hon => ?_, h5⟩)).symm
        have := M.last.2 k hon hk; omega
      · refine T.chain i j h3 hi.2.1 hlt fun k h4 h5 hk => spare k hk (.inl ⟨(M.upTo hO hk).2 h5, ?_⟩)
        rcases Nat.lt_or_ge j k with h6 | h6
        · exact h6
        · have : k = j := by omega
          subst this; exact absurd hk hnm
    · refine (T.chain j i h2 (Nat.le_of_lt hjs) hi.2.2.1 fun k h4 h5 hk => spare k hk (.inr ⟨fun hon => ?_, h5⟩)).symm
      have := M.last.2 k hon hk; omega
  exact M.con x p i ob hp hi (by rw [heq]; exact hob)
/-- A maker that comes next. -/
theorem Mid.stepAl (hO : Ord L ops) (T : Tr C ops L vals sts envs) (M : Mid C B ops vals sts envs ρ1 W1 ls e ρ W a) {j : Nat} {o : Oper} {g : M1} (h : Nxt ops ls j o) (hd : ∀ t, o.dst = some t → t < B.nt) (hop : opOf C.P (envs j) o = some (.al g))
    {cells : List Value} {cs : Array Value} {ty : TypeId} {u : Value} (hs : sts (j + 1) = (sts j).push ⟨cells, true⟩) (hv : handle (vals j) = some (sts j).n) (hc : All2 (CR ρ) cells cs.toList) (hvr : VR (upd ρ (sts j).n ⟨W.heap.size, 0, cs.size, true⟩) (vals j) u) (hf1 : ρ1 (sts j).n = none) :
    Mid C B ops vals sts envs ρ1 W1 (ls.setIfInBounds j true) e (upd ρ (sts j).n ⟨W.heap.size, 0, cs.size, true⟩) (W.alloc (.cells cs ty)) (a.put o.dst u) := by
  have hjl : j < ls.size := by rw [M.lsz]; exact h.lt
  have hjs := h.lt
  have hnm : ¬ IsM C ops envs j := fun ⟨o2, st2, ho2, hop2, hmu2, _⟩ => by
    rw [h.get] at ho2; cases ho2; rw [hop] at hop2; cases hop2; cases hmu2
  have hn1 : (sts (j + 1)).n = (sts j).n + 1 := by rw [hs]; rfl
  have hfree : ρ (sts j).n = none := by
    cases hp : ρ (sts j).n with
    | none => rfl
    | some p =>
      rcases M.dom _ p hp with h1 | ⟨k, h1, h2, h3⟩
      · rw [hf1] at h1; cases h1
      · have hks : k < ops.size := by
          have : k < ls.size := by
            unfold On at h1
            rcases Nat.lt_or_ge k ls.size with h' | h'
            · exact h'
            · simp [Array.getElem?_eq_none h'] at h1
          rw [← M.lsz]; exact this
        rcases Nat.lt_trichotomy k j with h4 | h4 | h4
        · have := T.mono j (k + 1) h4 (Nat.le_of_lt hjs); omega
        · subst h4; exact absurd h1 h.not
        · have := T.mono k (j + 1) h4 (Nat.le_of_lt hks); omega
  have hsub := sub_upd hfree ⟨W.heap.size, 0, cs.size, true⟩
  have hold : ∀ k, k < W.heap.size → (W.alloc (.cells cs ty)).heap[k]? = W.heap[k]? := fun k hk => Below.heap_alloc _ _ _ hk
  have hnew : (W.alloc (.cells cs ty)).heap[W.heap.size]? = some (.cells cs ty (0, 0)) := heap_alloc_new W _
  have hne : ∀ {x p}, ρ x = some p → x ≠ (sts j).n := fun hx hh => by subst hh; rw [hfree] at hx; cases hx
  have hblk : ∀ x p i ob, ρ x = some p → Idx ops sts e x i → (sts i).get x = some ob → p.own = true → p.b < W.heap.size := fun x p i ob h1 h2 h3 h4 => by
    obtain ⟨_, cs', e', h5, _⟩ := (M.con x p i ob h1 h2 h3).2.2.1 h4
    exact (Array.getElem?_eq_some_iff.1 h5).1
  have hat : ∀ i ob, Idx ops sts e (sts j).n i → (sts i).get (sts j).n = some ob → ob = ⟨cells, true⟩ := by
    intro i ob hi hob
    have hbase : (sts (j + 1)).get (sts j).n = some ⟨cells, true⟩ := by rw [hs, St.get_push, if_pos rfl]
    have hge : j + 1 ≤ i := by
      rcases Nat.lt_or_ge j i with h1 | h1
      · exact h1
      · have := T.mono j i h1 (Nat.le_of_lt hjs)
        have := hi.2.2.1; omega
    have heq : (sts i).get (sts j).n = (sts (j + 1)).get (sts j).n := by
      by_cases h1 : i = j + 1
      · rw [h1]
      · have hie : i = e := by
          rcases hi.2.2.2 with h2 | h2
          · exact h2
          · have hi2 := hi.2.1
            have := T.mono (i - 1) (j + 1) (by omega) (by omega)
            omega
        refine T.chain i (j + 1) hge hi.2.1 (by omega) fun k h4 h5 hk => ?_
        obtain ⟨o2, st2, ho2, hop2, hmu2, hr2⟩ := id hk
        have hon := (M.upTo hO hk).2 (by omega)
        have hu := free_of hO M.shut h.get h.all h.not ho2 (.inl ⟨hon, by omega⟩)
        exact T.spare h.get hk hu (by omega) (.inr ⟨by omega, g, hop, rfl⟩) _ hv
    rw [heq, hbase] at hob
    exact (Option.some.inj hob).symm
  refine ⟨by simp [M.lsz], M.shutStep h, by rw [put_size, M.size], by rw [put_defers', M.defers], M.envStep hO h hd hsub hvr, fun x p hx => ?_, M.sub.trans hsub, fun x hx => ?_, ⟨?_, fun m hon hmm => ?_⟩, fun x p i ob hx hi hob => ?_,
    fun x x' p p' i i' ob ob' hx hx' hi hi' ho ho' hp hp' hb => ?_, M.bel.alloc M.bel.size _, by rw [show (W.alloc (.cells cs ty)).heap = W.heap.push (.cells cs ty) from rfl, Array.size_push]; have := M.wsz; omega, fun k hk hn => ?_, fun k hk ⟨x, p, i, ob, hx, hi, ho, hp, hb⟩ => ?_⟩
  · by_cases hh : x = (sts j).n
    · subst hh
      exact .inr ⟨j, (on_set hjl).2 (.inl rfl), Nat.le_refl _, by omega⟩
    · rw [upd_ne _ _ hh] at hx
      rcases M.dom x p hx with h1 | ⟨k, h1, h2⟩
      · exact .inl h1
      · exact .inr ⟨k, (on_set hjl).2 (.inr h1), h2⟩
  · have hne : x ≠ (sts j).n := by
      have h1 := T.mono j 0 (Nat.zero_le _) (Nat.le_of_lt hjs)
      have h2 := T.mono ops.size (j + 1) hjs (Nat.le_refl _)
      omega
    rw [upd_ne _ _ hne]; exact M.out x hx
  · rcases M.last.1 with h1 | ⟨m, h1, h2, h3⟩
    · exact .inl h1
    · exact .inr ⟨m, h1, (on_set hjl).2 (.inr h2), h3⟩
  · rcases (on_set hjl).1 hon with rfl | hon
    · exact absurd hmm hnm
    · exact M.last.2 m hon hmm
  · by_cases hh : x = (sts j).n
    · subst hh
      rw [upd_self] at hx; cases hx
      have := hat i ob hi hob
      subst this
      refine ⟨rfl, fun k y hy => ?_, fun _ => ⟨M.bel.size, cs, ty, hnew, rfl, by simp; rw [All2_length hc]; simp⟩, fun hf => by cases hf⟩
      obtain ⟨z, hz, hr⟩ := All2_get k y hc hy
      exact ⟨z, by simp only [World.cell?, hnew]; simpa using hz, CR_mono hsub hr⟩
    · rw [upd_ne _ _ hh] at hx
      have hcon := M.con x p i ob hx hi hob
      refine Con_of hcon hsub ?_
      cases hp : p.own with
      | true => exact .inl (hold _ (hblk x p i ob hx hi hob hp))
      | false =>
        rcases hcon.2.2.2 hp with hz | hz
        · exact .inr ⟨hz, rfl⟩
        · exact .inl (hold _ (Nat.lt_of_lt_of_le hz M.bel.size))
  · by_cases hh : x = (sts j).n
    · subst hh
      by_cases hh' : x' = (sts j).n
      · exact hh'.symm
      · rw [upd_self] at hx; cases hx
        rw [upd_ne _ _ hh'] at hx'
        have := hblk x' p' i' ob' hx' hi' ho' hp'
        simp only at hb; omega
    · rw [upd_ne _ _ hh] at hx
      by_cases hh' : x' = (sts j).n
      · subst hh'
        rw [upd_self] at hx'; cases hx'
        have := hblk x p i ob hx hi ho hp
        simp only at hb; omega
      · rw [upd_ne _ _ hh'] at hx'
        exact M.inj x x' p p' i i' ob ob' hx hx' hi hi' ho ho' hp hp' hb
  · have := M.wsz
    rw [hold k (by omega)]; exact M.frame k hk hn
  · by_cases hh : x = (sts j).n
    · subst hh
      rw [upd_self] at hx; cases hx
      have := M.wsz
      simp only at hb; omega
    · rw [upd_ne _ _ hh] at hx
      exact M.own k hk ⟨x, p, i, ob, hx, hi, ho, hp, hb⟩
/-- A writer that comes next: the memory is as the trace has it there. -/
theorem Mid.same (hO : Ord L ops) (T : Tr C ops L vals sts envs) (M : Mid C B ops vals sts envs ρ1 W1 ls e ρ W a) {j : Nat} {o : Oper} (h : Nxt ops ls j o) (hj : IsM C ops envs j) {x : Nat} (hlt : x < (sts j).n) : ∃ i, Idx ops sts e x i ∧ (sts i).get x = (sts j).get x := by
  have hjs := h.lt
  have hej : e ≤ j := by
    rcases Nat.lt_or_ge j e with h1 | h1
    · exact absurd ((M.upTo hO hj).2 h1) h.not
    · exact h1
  have none_ : ∀ k, e ≤ k → k < j → ¬ IsM C ops envs k := fun k h1 h2 hk => by
    have hoff : ¬ On ls k := fun hon => by have := M.last.2 k hon hk; omega
    obtain ⟨o1, st1, ho1, hop1, hmu1, _⟩ := hk
    obtain ⟨o2, st2, ho2, hop2, hmu2, _⟩ := hj
    have hu := free_of hO M.shut h.get h.all h.not ho1 (.inr ⟨hoff, h2⟩)
    rw [h.get] at ho2; cases ho2
    exact (hO.pair k j o1 o h2 ho1 h.get hu).2 ⟨mu_writer hop1 hmu1, mu_writer hop2 hmu2⟩
  obtain ⟨i, hi, hcase⟩ := M.idx T (Nat.le_of_lt hjs) hlt
  have hij : i ≤ j := by rcases hcase with ⟨h1, _⟩ | ⟨_, h1⟩ <;> omega
  exact ⟨i, hi, (T.chain j i hij (Nat.le_of_lt hjs) hi.2.2.1 fun k h4 h5 hk => absurd hk (none_ k (Nat.le_trans hi.1 h4) h5)).symm⟩
theorem Mid.relAt (hO : Ord L ops) (T : Tr C ops L vals sts envs) (M : Mid C B ops vals sts envs ρ1 W1 ls e ρ W a) {j : Nat} {o : Oper} (h : Nxt ops ls j o) (hj : IsM C ops envs j) : Rel C ρ (sts j) W := by
  refine ⟨fun x p ob hx hob => ?_, fun x x' p p' ob ob' hx hx' ho ho' hp hp' hb => ?_, M.bel⟩
  · obtain ⟨i, hi, heq⟩ := M.same hO T h hj (St.get_lt hob)
    exact M.con x p i ob hx hi (by rw [heq]; exact hob)
  · obtain ⟨i, hi, heq⟩ := M.same hO T h hj (St.get_lt ho)
    obtain ⟨i', hi', heq'⟩ := M.same hO T h hj (St.get_lt ho')
    exact M.inj x x' p p' i i' ob ob' hx hx' hi hi' (by rw [heq]; exact ho) (by rw [heq']; exact ho') hp hp' hb
theorem on_lt (hl : ls.size = ops.size) {k : Nat} (h : On ls k) : k < ops.size := by
  rw [← hl]
  unfold On at h
  rcases Nat.lt_or_ge k ls.size with h' | h'
  · exact h'
  · simp [Array.getElem?_eq_none h'] at h
theorem Mid.freeAt (T : Tr C ops L vals sts envs) (M : Mid C B ops vals sts envs ρ1 W1 ls e ρ W a) {j : Nat} {o : Oper} (h : Nxt ops ls j o) (hf1 : Free ρ1 (sts 0).n (sts ops.size).n) : Free ρ (sts j).n (sts (j + 1)).n := by
  intro x h1 h2
  have hjs := h.lt
  cases hp : ρ x with
  | none => rfl
  | some p =>
    rcases M.dom _ p hp with h3 | ⟨k, h3, h4, h5⟩
    · have q1 := T.mono j 0 (Nat.zero_le _) (Nat.le_of_lt hjs)
      have q2 := T.mono ops.size (j + 1) hjs (Nat.le_refl _)
      rw [hf1 x (by omega) (by omega)] at h3; cases h3
    · have hks := on_lt M.lsz h3
      rcases Nat.lt_trichotomy k j with h6 | h6 | h6
      · have := T.mono j (k + 1) h6 (Nat.le_of_lt hjs); omega
      · subst h6; exact absurd h3 h.not
      · have := T.mono k (j + 1) h6 (Nat.le_of_lt hks); omega
theorem Mid.stepM (hO : Ord L ops) (T : Tr C ops L vals sts envs) (M : Mid C B ops vals sts envs ρ1 W1 ls e ρ W a) {j : Nat} {o : Oper} (h : Nxt ops ls j o) (hd : ∀ t, o.dst = some t → t < B.nt) (hj : IsM C ops envs j)
    {ρ' : Rho} {W' : World} {u : Value} (hR : Rel C ρ' (sts (j + 1)) W') (hw : Way ρ (sts j) W ρ' (sts (j + 1)) W') (hv : VR ρ' (vals j) u) :
    Mid C B ops vals sts envs ρ1 W1 (ls.setIfInBounds j true) (j + 1) ρ' W' (a.put o.dst u) := by
  have hjl : j < ls.size := by rw [M.lsz]; exact h.lt
  have hjs := h.lt
  have hej : e ≤ j := by
    rcases Nat.lt_or_ge j e with h1 | h1
    · exact absurd ((M.upTo hO hj).2 h1) h.not
    · exact h1
  have hRj := M.relAt hO T h hj
  have far : ∀ x i, Idx ops sts (j + 1) x i → ¬ x < (sts (j + 1)).n → Idx ops sts e x i ∧ ρ' x = ρ x := by
    intro x i hi hx
    refine ⟨⟨by have := hi.1; omega, hi.2.1, hi.2.2.1, .inr ?_⟩, hw.agree x (.inr (by omega))⟩
    rcases hi.2.2.2 with h1 | h1
    · subst h1; exact absurd hi.2.2.1 hx
    · exact h1
  have near : ∀ x i, Idx ops sts (j + 1) x i → x < (sts (j + 1)).n → i = j + 1 := by
    intro x i hi hx
    rcases hi.2.2.2 with h1 | h1
    · exact h1
    · have h2 := hi.1
      by_cases h3 : i = j + 1
      · exact h3
      · have h4 := hi.2.1
        have := T.mono (i - 1) (j + 1) (by omega) (by omega); omega
  have other : ∀ x p i ob, ρ x = some p → Idx ops sts e x i → (sts i).get x = some ob → p.own = true → ¬ x < (sts (j + 1)).n → ¬ OwnBlk ρ (sts j) p.b := by
    intro x p i ob hx hi hob hp hfar ⟨y, q, ob2, h1, h2, h3, h4⟩
    obtain ⟨i2, hi2, heq⟩ := M.same hO T h hj (St.get_lt h2)
    have := M.inj y x q p i2 i ob2 ob h1 hx hi2 hi (by rw [heq]; exact h2) hob h3 hp h4
    subst this
    have q1 := St.get_lt h2
    have q2 := T.mono (j + 1) j (by omega) hjs
    omega
  have blk : ∀ x p i ob, ρ x = some p → Idx ops sts e x i → (sts i).get x = some ob → p.own = true → p.b < W.heap.size := fun x p i ob h1 h2 h3 h4 => by
    obtain ⟨_, cs', e', h5, _⟩ := (M.con x p i ob h1 h2 h3).2.2.1 h4
    exact (Array.getElem?_eq_some_iff.1 h5).1
  refine ⟨by simp [M.lsz], M.shutStep h, by rw [put_size, M.size], by rw [put_defers', M.defers], M.envStep hO h hd hw.sub hv, fun x p hx => ?_, M.sub.trans hw.sub, fun x hx => ?_, ⟨.inr ⟨j, rfl, (on_set hjl).2 (.inl rfl), hj⟩, fun m hon hmm => ?_⟩,
    fun x p i ob hx hi hob => ?_, fun x x' p p' i i' ob ob' hx hx' hi hi' ho ho' hp hp' hb => ?_, hR.bel, Nat.le_trans M.wsz hw.size, fun k hk hn => ?_, fun k hk ⟨x, p, i, ob, hx, hi, ho, hp, hb⟩ => ?_⟩
  · by_cases hin : (sts j).n ≤ x ∧ x < (sts (j + 1)).n
    · exact .inr ⟨j, (on_set hjl).2 (.inl rfl), hin⟩
    · rw [hw.agree x (by omega)] at hx
      rcases M.dom x p hx with h1 | ⟨k, h1, h2⟩
      · exact .inl h1
      · exact .inr ⟨k, (on_set hjl).2 (.inr h1), h2⟩
  · have h1 := T.mono j 0 (Nat.zero_le _) (Nat.le_of_lt hjs)
    have h2 := T.mono ops.size (j + 1) hjs (Nat.le_refl _)
    rw [hw.agree x (by omega)]; exact M.out x hx
  · rcases (on_set hjl).1 hon with rfl | hon
    · omega
    · have := M.last.2 m hon hmm; omega
  · by_cases hin : x < (sts (j + 1)).n
    · have := near x i hi hin
      subst this
      exact hR.con x p ob hx hob
    · obtain ⟨hi2, heq⟩ := far x i hi hin
      rw [heq] at hx
      have hcon := M.con x p i ob hx hi2 hob
      refine Con_of hcon hw.sub ?_
      cases hp : p.own with
      | true => exact .inl (hw.frame _ (blk x p i ob hx hi2 hob hp) (other x p i ob hx hi2 hob hp hin))
      | false =>
        rcases hcon.2.2.2 hp with hz | hz
        · exact .inr ⟨hz, rfl⟩
        · refine .inl (hw.frame _ (Nat.lt_of_lt_of_le hz M.bel.size) fun ⟨y, q, ob2, h1, h2, h3, h4⟩ => ?_)
          have := ((hRj.con y q ob2 h1 h2).2.2.1 h3).1
          omega
  · by_cases hin : x < (sts (j + 1)).n
    · have e1 := near x i hi hin
      subst e1
      by_cases hin' : x' < (sts (j + 1)).n
      · have e2 := near x' i' hi' hin'
        subst e2
        exact hR.inj x x' p p' ob ob' hx hx' ho ho' hp hp' hb
      · obtain ⟨hi2, heq⟩ := far x' i' hi' hin'
        rw [heq] at hx'
        have hb2 := blk x' p' i' ob' hx' hi2 ho' hp'
        exact absurd (hw.own p'.b hb2 ⟨x, p, ob, hx, ho, hp, hb⟩) (other x' p' i' ob' hx' hi2 ho' hp' hin')
    · obtain ⟨hi1, heq1⟩ := far x i hi hin
      rw [heq1] at hx
      by_cases hin' : x' < (sts (j + 1)).n
      · have e2 := near x' i' hi' hin'
        subst e2
        have hb2 := blk x p i ob hx hi1 ho hp
        exact absurd (hw.own p.b hb2 ⟨x', p', ob', hx', ho', hp', hb.symm⟩) (other x p i ob hx hi1 ho hp hin)
      · obtain ⟨hi2, heq⟩ := far x' i' hi' hin'
        rw [heq] at hx'
        exact M.inj x x' p p' i i' ob ob' hx hx' hi1 hi2 ho ho' hp hp' hb
  · have hk2 := M.wsz
    rw [hw.frame k (by omega) fun ⟨y, q, ob2, h1, h2, h3, h4⟩ => ?_]
    · exact M.frame k hk hn
    · obtain ⟨i2, hi2, heq⟩ := M.same hO T h hj (St.get_lt h2)
      exact hn (M.own k hk ⟨y, q, i2, ob2, h1, hi2, by rw [heq]; exact h2, h3, h4⟩)
  · have hk2 := M.wsz
    by_cases hin : x < (sts (j + 1)).n
    · have e1 := near x i hi hin
      subst e1
      obtain ⟨y, q, ob2, h1, h2, h3, h4⟩ := hw.own k (by omega) ⟨x, p, ob, hx, ho, hp, hb⟩
      obtain ⟨i2, hi2, heq⟩ := M.same hO T h hj (St.get_lt h2)
      exact M.own k hk ⟨y, q, i2, ob2, h1, hi2, by rw [heq]; exact h2, h3, h4⟩
    · obtain ⟨hi2, heq⟩ := far x i hi hin
      rw [heq] at hx
      exact M.own k hk ⟨x, p, i, ob, hx, hi2, ho, hp, hb⟩
end
end Go.Proofs.Ytmikdglafmfnfaa.Eng
