/- The engine's truth, fourth part: how a change of the machine's memory and one of the engine's go together. -/
import Derived.Test.YtmikdglafmfnfaaEngC
import Derived.Laws.CopyRow
import Derived.Laws.MakeOwn
import Derived.Laws.BytesString
namespace Go.Proofs.Ytmikdglafmfnfaa.Eng
open Go Go.RowKit
set_option linter.unusedVariables false
set_option linter.unusedSimpArgs false
theorem cell_of_heap {W W' : World} {b o : Nat} (h : W'.heap[b]? = W.heap[b]?) : W'.cell? ⟨b, o, none⟩ = W.cell? ⟨b, o, none⟩ := by simp [World.cell?, h]
theorem Con_of {B0 : Nat} {ρ ρ' : Rho} {W W' : World} {p : Pl} {ob : Ob} (h : Con B0 ρ W p ob) (hs : Sub ρ ρ') (hw : W'.heap[p.b]? = W.heap[p.b]? ∨ (ob.cells = [] ∧ p.own = false)) : Con B0 ρ' W' p ob := by
  obtain ⟨h1, h2, h3, h4⟩ := h
  refine ⟨h1, fun i x hx => ?_, fun ho => ?_, h4⟩
  · obtain ⟨u, hu, hc⟩ := h2 i x hx
    rcases hw with hw | ⟨hw, _⟩
    · exact ⟨u, by rw [cell_of_heap hw]; exact hu, CR_mono hs hc⟩
    · rw [hw] at hx; simp at hx
  · obtain ⟨hb, cs, e, h5, h6⟩ := h3 ho
    rcases hw with hw | ⟨_, hw⟩
    · exact ⟨hb, cs, e, by rw [hw]; exact h5, h6⟩
    · rw [hw] at ho; cases ho
/-- A row of the engine's, read. -/
theorem read_list {R : Value → Value → Prop} (f : Nat → Option Value) : ∀ (cs : List Value) (k : Nat), (∀ i x, cs[i]? = some x → ∃ u, f (k + i) = some u ∧ R x u) → ∃ us, All2 R cs us ∧ ∀ j u, us[j]? = some u → f (k + j) = some u
  | [], k, _ => ⟨[], trivial, by simp⟩
  | c :: cs, k, h => by
    obtain ⟨u, hu, hr⟩ := h 0 c rfl
    obtain ⟨us, h1, h2⟩ := read_list f cs (k + 1) fun i x hx => by
      obtain ⟨w, hw, hr⟩ := h (i + 1) x (by simpa using hx)
      exact ⟨w, by rw [← hw]; congr 1; omega, hr⟩
    refine ⟨u :: us, ⟨hr, h1⟩, fun j w hj => ?_⟩
    cases j with
    | zero => simp at hj; subst hj; exact hu
    | succ j =>
      have := h2 j w (by simpa using hj)
      rw [← this]; congr 1; omega
theorem rdCells_spec {ob : Ob} {off sz : Nat} {cs : List Value} (h : rdCells ob off sz = some cs) : off + sz ≤ ob.cells.length ∧ cs = (ob.cells.drop off).take sz ∧ cs.length = sz ∧ ∀ i x, cs[i]? = some x → ob.cells[off + i]? = some x := by
  unfold rdCells at h
  split at h
  · rename_i hl
    cases h
    refine ⟨hl, rfl, by simp; omega, fun i x hx => ?_⟩
    rw [List.getElem?_take] at hx
    split at hx
    · rwa [List.getElem?_drop] at hx
    · cases hx
  · cases h
theorem con_read {B0 : Nat} {ρ : Rho} {W : World} {p : Pl} {ob : Ob} {off sz : Nat} {cs : List Value} (h : Con B0 ρ W p ob) (hr : rdCells ob off sz = some cs) :
    ∃ us, All2 (CR ρ) cs us ∧ us.length = sz ∧ ∀ j u, us[j]? = some u → W.cell? ((⟨p.b, p.o + off, none⟩ : Addr).add j) = some u := by
  obtain ⟨h1, h2, h3, h4⟩ := rdCells_spec hr
  obtain ⟨us, k1, k2⟩ := read_list (R := CR ρ) (fun i => W.cell? ⟨p.b, p.o + off + i, none⟩) cs 0 fun i x hx => by
    obtain ⟨u, hu, hc⟩ := h.2.1 (off + i) x (h4 i x hx)
    exact ⟨u, by rw [← hu]; congr 2; omega, hc⟩
  refine ⟨us, k1, by rw [← All2_length k1]; exact h3, fun j u hj => ?_⟩
  rw [Addr.add_lit]
  simpa using k2 j u hj
def upd (ρ : Rho) (h : Nat) (p : Pl) : Rho := fun k => if k = h then some p else ρ k
theorem upd_self (ρ : Rho) (h : Nat) (p : Pl) : upd ρ h p h = some p := by simp [upd]
theorem upd_ne (ρ : Rho) {h k : Nat} (p : Pl) (hk : k ≠ h) : upd ρ h p k = ρ k := by simp [upd, hk]
section
variable {C : Ctx} {ρ : Rho} {s : St} {W W' : World}
theorem sub_upd (hf : ρ s.n = none) (p : Pl) : Sub ρ (upd ρ s.n p) := fun k q hk => by
  by_cases hh : k = s.n
  · subst hh; rw [hf] at hk; cases hk
  · rw [upd_ne _ _ hh]; exact hk
/-- A new row. -/
theorem Rel.alloc (h : Rel C ρ s W) (hf : ρ s.n = none) {cells : List Value} {cs : Array Value} {e : TypeId} (hW : W'.heap = W.heap.push (.cells cs e)) (hos : W'.os = W.os) (htape : W'.tape = W.tape) (hout : W'.output = W.output)
    (hc : ∀ (i : Nat) x, cells[i]? = some x → ∃ u, cs[i]? = some u ∧ CR ρ x u) (hl : cells.length ≤ cs.size) :
    Rel C (upd ρ s.n ⟨W.heap.size, 0, cs.size, true⟩) (s.push ⟨cells, true⟩) W' ∧ Way ρ s W (upd ρ s.n ⟨W.heap.size, 0, cs.size, true⟩) (s.push ⟨cells, true⟩) W' := by
  have hold : ∀ k, k < W.heap.size → W'.heap[k]? = W.heap[k]? := fun k hk => by rw [hW, Array.getElem?_push, if_neg (by omega)]
  have hnew : W'.heap[W.heap.size]? = some (.cells cs e (0, 0)) := by rw [hW]; simp
  have hsub := sub_upd hf ⟨W.heap.size, 0, cs.size, true⟩
  have hbel : Below W.heap.size W W' := ⟨hos, htape, hout, by rw [hW]; simp, hold⟩
  have hlt : ∀ k p ob, ρ k = some p → s.get k = some ob → p.own = true → p.b < W.heap.size := fun k p ob h1 h2 h3 => by
    obtain ⟨_, cs', e', h5, _⟩ := (h.con k p ob h1 h2).2.2.1 h3
    exact (Array.getElem?_eq_some_iff.1 h5).1
  have hpush : ∀ k ob, (s.push ⟨cells, true⟩).get k = some ob → (k = s.n ∧ ob = ⟨cells, true⟩) ∨ (k ≠ s.n ∧ s.get k = some ob) := fun k ob hk => by
    rw [St.get_push] at hk
    by_cases hh : k = s.n
    · rw [if_pos hh] at hk; cases hk; exact .inl ⟨hh, rfl⟩
    · rw [if_neg hh] at hk; exact .inr ⟨hh, hk⟩
  refine ⟨⟨fun k p ob hk ho => ?_, fun k k' p p' ob ob' hk hk' ho ho' hp hp' hb => ?_, h.bel.trans (hbel.mono h.bel.size)⟩, ⟨by simp [St.push], hsub, fun k hk => upd_ne _ _ (by rw [St.push_n] at hk; omega), hbel.size, fun k hk _ => hold k hk, fun k hk ⟨x, p, ob, h1, h2, h3, h4⟩ => ?_⟩⟩
  · rcases hpush k ob ho with ⟨rfl, rfl⟩ | ⟨hh, ho⟩
    · rw [upd_self] at hk; cases hk
      refine ⟨rfl, fun i x hx => ?_, fun _ => ⟨h.bel.size, cs, e, hnew, rfl, by simpa using hl⟩, fun hf => by cases hf⟩
      obtain ⟨u, hu, hr⟩ := hc i x hx
      exact ⟨u, by simp [World.cell?, hnew, hu], CR_mono hsub hr⟩
    · rw [upd_ne _ _ hh] at hk
      have hcon := h.con k p ob hk ho
      refine Con_of hcon hsub ?_
      cases hp : p.own with
      | true => exact .inl (hold _ (hlt k p ob hk ho hp))
      | false =>
        rcases hcon.2.2.2 hp with hz | hz
        · exact .inr ⟨hz, rfl⟩
        · exact .inl (hold _ (Nat.lt_of_lt_of_le hz h.bel.size))
  · rcases hpush k ob ho with ⟨rfl, rfl⟩ | ⟨hh, ho⟩
    · rcases hpush k' ob' ho' with ⟨rfl, rfl⟩ | ⟨hh', ho'⟩
      · rfl
      · rw [upd_self] at hk; cases hk
        rw [upd_ne _ _ hh'] at hk'
        have := hlt k' p' ob' hk' ho' hp'
        simp only at hb; omega
    · rw [upd_ne _ _ hh] at hk
      rcases hpush k' ob' ho' with ⟨rfl, rfl⟩ | ⟨hh', ho'⟩
      · rw [upd_self] at hk'; cases hk'
        have := hlt k p ob hk ho hp
        simp only at hb; omega
      · rw [upd_ne _ _ hh'] at hk'
        exact h.inj k k' p p' ob ob' hk hk' ho ho' hp hp' hb
  · rcases hpush x ob h2 with ⟨rfl, rfl⟩ | ⟨hh, h2⟩
    · rw [upd_self] at h1; cases h1; simp only at h4; omega
    · rw [upd_ne _ _ hh] at h1
      exact ⟨x, p, ob, h1, h2, h3, h4⟩
/-- A row that nobody reads any more. -/
theorem get_kill {x k : Nat} {ob : Ob} (h : (s.put x none).get k = some ob) : k ≠ x ∧ s.get k = some ob := by
  unfold St.get at h ⊢
  rw [St.put_n, St.put_o] at h
  by_cases e : k = x
  · simp [e] at h
  · simp only [e, if_false] at h; exact ⟨e, h⟩
theorem Rel.kill (h : Rel C ρ s W) (x : Nat) : Rel C ρ (s.put x none) W :=
  ⟨fun k p ob hk ho => h.con k p ob hk (get_kill ho).2, fun k k' p p' ob ob' hk hk' ho ho' => h.inj k k' p p' ob ob' hk hk' (get_kill ho).2 (get_kill ho').2, h.bel⟩
theorem Way.kill (x : Nat) : Way ρ s W ρ (s.put x none) W :=
  ⟨Nat.le_refl _, Sub.refl _, fun _ _ => rfl, Nat.le_refl _, fun _ _ _ => rfl, fun k _ ⟨y, p, ob, h1, h2, h3, h4⟩ => ⟨y, p, ob, h1, (get_kill h2).2, h3, h4⟩⟩
theorem Way.refl : Way ρ s W ρ s W := ⟨Nat.le_refl _, Sub.refl _, fun _ _ => rfl, Nat.le_refl _, fun _ _ _ => rfl, fun _ _ h => h⟩
theorem Way.trans {ρ1 ρ2 : Rho} {s1 s2 : St} {W1 W2 : World} (h : Way ρ s W ρ1 s1 W1) (k : Way ρ1 s1 W1 ρ2 s2 W2) : Way ρ s W ρ2 s2 W2 :=
  ⟨Nat.le_trans h.n k.n, h.sub.trans k.sub, fun x hx => by
    have h1 := h.n
    have h2 := k.n
    exact (k.agree x (by omega)).trans (h.agree x (by omega)), Nat.le_trans h.size k.size,
    fun b hb hn => (k.frame b (Nat.lt_of_lt_of_le hb h.size) fun hh => hn (h.own b hb hh)).trans (h.frame b hb hn), fun b hb hh => h.own b hb (k.own b (Nat.lt_of_lt_of_le hb h.size) hh)⟩
/-- A row written in its place: the row of the machine under it is another now. -/
theorem Rel.write (h : Rel C ρ s W) {x : Nat} {p : Pl} {ob ob' : Ob} {cs' : Array Value} {e : TypeId} (hp : ρ x = some p) (ho : s.get x = some ob) (hown : p.own = true) (hob' : ob'.own = true)
    (hW : W'.heap[p.b]? = some (.cells cs' e (0, 0))) (hsz : cs'.size = p.sz) (hle : p.o + ob'.cells.length ≤ p.sz) (hoth : ∀ k, k ≠ p.b → W'.heap[k]? = W.heap[k]?) (hsize : W'.heap.size = W.heap.size)
    (hos : W'.os = W.os) (htape : W'.tape = W.tape) (hout : W'.output = W.output) (hc : ∀ (i : Nat) y, ob'.cells[i]? = some y → ∃ u, cs'[p.o + i]? = some u ∧ CR ρ y u) :
    Rel C ρ (s.put x (some ob')) W' ∧ Way ρ s W ρ (s.put x (some ob')) W' := by
  have hcon := h.con x p ob hp ho
  obtain ⟨hB, _⟩ := hcon.2.2.1 hown
  have hput : ∀ k o', (s.put x (some ob')).get k = some o' → (k = x ∧ o' = ob') ∨ (k ≠ x ∧ s.get k = some o') := fun k o' hk => by
    rw [St.get_put _ _ _ _ (St.get_lt ho)] at hk
    by_cases hh : k = x
    · rw [if_pos hh] at hk; cases hk; exact .inl ⟨hh, rfl⟩
    · rw [if_neg hh] at hk; exact .inr ⟨hh, hk⟩
  refine ⟨⟨fun k q o' hk hq => ?_, fun k k' q q' o1 o2 hk hk' h1 h2 hq hq' hb => ?_, ?_⟩, ⟨Nat.le_refl _, Sub.refl _, fun _ _ => rfl, by omega, fun k hk hn => hoth k fun hh => hn ⟨x, p, ob, hp, ho, hown, hh.symm⟩, fun k hk ⟨y, q, o', h1, h2, h3, h4⟩ => ?_⟩⟩
  · rcases hput k o' hq with ⟨rfl, rfl⟩ | ⟨hne, hq⟩
    · rw [hp] at hk; cases hk
      refine ⟨by rw [hob', hown], fun i y hy => ?_, fun _ => ⟨hB, cs', e, hW, hsz, hle⟩, fun hf => by rw [hown] at hf; cases hf⟩
      obtain ⟨u, hu, hr⟩ := hc i y hy
      exact ⟨u, by simp [World.cell?, hW, hu], hr⟩
    · have hc2 := h.con k q o' hk hq
      refine Con_of hc2 (Sub.refl _) ?_
      cases hqo : q.own with
      | true => exact .inl (hoth _ fun hh => hne (h.inj k x q p o' ob hk hp hq ho hqo hown hh))
      | false =>
        rcases hc2.2.2.2 hqo with hz | hz
        · exact .inr ⟨hz, rfl⟩
        · exact .inl (hoth _ (by omega))
  · have g1 : ∃ z, s.get k = some z := by rcases hput k o1 h1 with ⟨rfl, _⟩ | ⟨_, hz⟩; exact ⟨_, ho⟩; exact ⟨_, hz⟩
    have g2 : ∃ z, s.get k' = some z := by rcases hput k' o2 h2 with ⟨rfl, _⟩ | ⟨_, hz⟩; exact ⟨_, ho⟩; exact ⟨_, hz⟩
    obtain ⟨z1, g1⟩ := g1; obtain ⟨z2, g2⟩ := g2
    exact h.inj k k' q q' z1 z2 hk hk' g1 g2 hq hq' hb
  · exact h.bel.trans ⟨hos, htape, hout, by omega, fun k hk => hoth k (by omega)⟩
  · rcases hput y o' h2 with ⟨rfl, _⟩ | ⟨_, hz⟩
    · exact ⟨y, q, ob, h1, ho, h3, h4⟩
    · exact ⟨y, q, o', h1, hz, h3, h4⟩
/-- An append in its place: the old handle dies, the new one has the same row. -/
theorem Rel.move (h : Rel C ρ s W) (hf : ρ s.n = none) {x : Nat} {p : Pl} {ob : Ob} {o2 : Nat} {cells : List Value} (hp : ρ x = some p) (ho : s.get x = some ob) (hown : p.own = true) {cs' : Array Value} {e : TypeId}
    (hW : W'.heap[p.b]? = some (.cells cs' e (0, 0))) (hsz : cs'.size = p.sz) (hle : o2 + cells.length ≤ p.sz) (hoth : ∀ k, k ≠ p.b → W'.heap[k]? = W.heap[k]?) (hsize : W'.heap.size = W.heap.size)
    (hos : W'.os = W.os) (htape : W'.tape = W.tape) (hout : W'.output = W.output) (hc : ∀ (i : Nat) y, cells[i]? = some y → ∃ u, cs'[o2 + i]? = some u ∧ CR ρ y u) :
    Rel C (upd ρ s.n ⟨p.b, o2, p.sz, true⟩) ((s.put x none).push ⟨cells, true⟩) W' ∧ Way ρ s W (upd ρ s.n ⟨p.b, o2, p.sz, true⟩) ((s.put x none).push ⟨cells, true⟩) W' := by
  have hcon := h.con x p ob hp ho
  obtain ⟨hB, _⟩ := hcon.2.2.1 hown
  have hsub := sub_upd hf ⟨p.b, o2, p.sz, true⟩
  have hpush : ∀ k o', ((s.put x none).push ⟨cells, true⟩).get k = some o' → (k = s.n ∧ o' = ⟨cells, true⟩) ∨ (k ≠ s.n ∧ k ≠ x ∧ s.get k = some o') := fun k o' hk => by
    rw [St.get_push] at hk
    by_cases hh : k = s.n
    · rw [if_pos (show k = (s.put x none).n from hh)] at hk; cases hk; exact .inl ⟨hh, rfl⟩
    · rw [if_neg (show ¬ k = (s.put x none).n from hh)] at hk
      exact .inr ⟨hh, (get_kill hk).1, (get_kill hk).2⟩
  refine ⟨⟨fun k q o' hk hq => ?_, fun k k' q q' o1 o2' hk hk' h1 h2 hq hq' hb => ?_, ?_⟩, ⟨by simp [St.push, St.put], hsub, fun k hk => upd_ne _ _ (by rw [St.push_n, St.put_n] at hk; omega), by omega, fun k hk hn => hoth k fun hh => hn ⟨x, p, ob, hp, ho, hown, hh.symm⟩, fun k hk ⟨y, q, o', h1, h2, h3, h4⟩ => ?_⟩⟩
  · rcases hpush k o' hq with ⟨rfl, rfl⟩ | ⟨hn, hne, hq⟩
    · rw [upd_self] at hk; cases hk
      refine ⟨rfl, fun i y hy => ?_, fun _ => ⟨hB, cs', e, hW, hsz, hle⟩, fun hf => by cases hf⟩
      obtain ⟨u, hu, hr⟩ := hc i y hy
      exact ⟨u, by simp [World.cell?, hW, hu], CR_mono hsub hr⟩
    · rw [upd_ne _ _ hn] at hk
      have hc2 := h.con k q o' hk hq
      refine Con_of hc2 hsub ?_
      cases hqo : q.own with
      | true => exact .inl (hoth _ fun hh => hne (h.inj k x q p o' ob hk hp hq ho hqo hown hh))
      | false =>
        rcases hc2.2.2.2 hqo with hz | hz
        · exact .inr ⟨hz, rfl⟩
        · exact .inl (hoth _ (by omega))
  · rcases hpush k o1 h1 with ⟨rfl, rfl⟩ | ⟨hn, hne, h1⟩
    · rcases hpush k' o2' h2 with ⟨rfl, rfl⟩ | ⟨hn', hne', h2⟩
      · rfl
      · rw [upd_self] at hk; cases hk
        rw [upd_ne _ _ hn'] at hk'
        exact absurd (h.inj k' x q' p o2' ob hk' hp h2 ho hq' hown hb.symm) hne'
    · rw [upd_ne _ _ hn] at hk
      rcases hpush k' o2' h2 with ⟨rfl, rfl⟩ | ⟨hn', hne', h2⟩
      · rw [upd_self] at hk'; cases hk'
        exact absurd (h.inj k x q p o1 ob hk hp h1 ho hq hown hb) hne
      · rw [upd_ne _ _ hn'] at hk'
        exact h.inj k k' q q' o1 o2' hk hk' h1 h2 hq hq' hb
  · exact h.bel.trans ⟨hos, htape, hout, by omega, fun k hk => hoth k (by omega)⟩
  · rcases hpush y o' h2 with ⟨rfl, rfl⟩ | ⟨hn, hne, h2⟩
    · rw [upd_self] at h1; cases h1
      exact ⟨x, p, ob, hp, ho, hown, h4⟩
    · rw [upd_ne _ _ hn] at h1
      exact ⟨y, q, o', h1, h2, h3, h4⟩
end
end Go.Proofs.Ytmikdglafmfnfaa.Eng
