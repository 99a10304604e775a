/- The arguments of a law, laid into the engine's memory: whatever reads as data by its type is read there, too. -/
import Derived.Test.YtmikdglafmfnfaaEngU
namespace Go.Proofs.Ytmikdglafmfnfaa.Eng
open Go Go.RowKit
set_option linter.unusedVariables false
set_option linter.unusedSimpArgs false
/-- One more way: rows that are only read are laid down. -/
structure Laid (C : Ctx) (ρ : Rho) (s : St) (ρ' : Rho) (s' : St) : Prop where
  ext : Ext s s'
  sub : Sub ρ ρ'
  rel : Rel C ρ' s' C.w0
  top : ∀ h, s'.n ≤ h → ρ' h = none
theorem Laid.trans {C : Ctx} {ρ ρ1 ρ2 : Rho} {s s1 s2 : St} (h : Laid C ρ s ρ1 s1) (k : Laid C ρ1 s1 ρ2 s2) : Laid C ρ s ρ2 s2 := ⟨h.ext.trans k.ext, h.sub.trans k.sub, k.rel, k.top⟩
/-- A kind of data: how the machine's cells read as x, how the engine's do. -/
structure Kind (α : Type) where
  sz : Nat
  K : World → α → List Value → Prop
  E : St → α → List Value → Prop
  K_len : ∀ {w x cs}, K w x cs → cs.length = sz
  E_ext : ∀ {s s' x cs}, Ext s s' → E s x cs → E s' x cs
  lay : ∀ {C ρ s x cs}, Rel C ρ s C.w0 → (∀ h, s.n ≤ h → ρ h = none) → K C.w0 x cs → ∃ ρ' s' es, Laid C ρ s ρ' s' ∧ All2 (CR ρ') es cs ∧ E s' x es
theorem Laid.refl {C : Ctx} {ρ : Rho} {s : St} (h : Rel C ρ s C.w0) (ht : ∀ h, s.n ≤ h → ρ h = none) : Laid C ρ s ρ s := ⟨Ext.refl s, Sub.refl ρ, h, ht⟩
def kInt (k : IntKind) : Kind Int where
  sz := 1
  K := fun _ x cs => cs = [.int k x]
  E := fun _ x cs => cs = [.int k x]
  K_len := fun h => by subst h; rfl
  E_ext := fun _ h => h
  lay := fun hr ht hk => ⟨_, _, _, Laid.refl hr ht, by subst hk; exact ⟨rfl, trivial⟩, rfl⟩
def kBool : Kind Bool where
  sz := 1
  K := fun _ x cs => cs = [.bool x]
  E := fun _ x cs => cs = [.bool x]
  K_len := fun h => by subst h; rfl
  E_ext := fun _ h => h
  lay := fun hr ht hk => ⟨_, _, _, Laid.refl hr ht, by subst hk; exact ⟨rfl, trivial⟩, rfl⟩
def kStr : Kind ByteArray where
  sz := 1
  K := fun _ x cs => cs = [.string x]
  E := fun _ x cs => cs = [.string x]
  K_len := fun h => by subst h; rfl
  E_ext := fun _ h => h
  lay := fun hr ht hk => ⟨_, _, _, Laid.refl hr ht, by subst hk; exact ⟨rfl, trivial⟩, rfl⟩
def kPair {α β : Type} (a : Kind α) (b : Kind β) : Kind (α × β) where
  sz := a.sz + b.sz
  K := fun w p cs => ∃ c d, cs = c ++ d ∧ a.K w p.1 c ∧ b.K w p.2 d
  E := fun s p cs => ∃ c d, cs = c ++ d ∧ a.E s p.1 c ∧ b.E s p.2 d
  K_len := fun ⟨c, d, h, h1, h2⟩ => by rw [h, List.length_append, a.K_len h1, b.K_len h2]
  E_ext := fun he ⟨c, d, h, h1, h2⟩ => ⟨c, d, h, a.E_ext he h1, b.E_ext he h2⟩
  lay := fun hr ht ⟨c, d, h, h1, h2⟩ => by
    obtain ⟨ρ1, s1, e1, l1, r1, g1⟩ := a.lay hr ht h1
    obtain ⟨ρ2, s2, e2, l2, r2, g2⟩ := b.lay l1.rel l1.top h2
    exact ⟨ρ2, s2, e1 ++ e2, l1.trans l2, by rw [h]; exact All2_append (All2_mono (fun _ _ => CR_mono l2.sub) r1) r2, e1, e2, rfl, a.E_ext l2.ext g1, g2⟩
def kIso {α β : Type} (d : Kind α) (f : β → α) : Kind β where
  sz := d.sz
  K := fun w x cs => d.K w (f x) cs
  E := fun s x cs => d.E s (f x) cs
  K_len := d.K_len
  E_ext := d.E_ext
  lay := d.lay
/-- A row that the machine reads at A. -/
def RowAt {α : Type} (d : Kind α) (w : World) (A : Option Addr) (xs : List α) : Prop :=
  xs ≠ [] → ∃ ad, A = some ad ∧ ∀ (j : Nat) x, xs[j]? = some x → ∃ c, c.length = d.sz ∧ d.K w x c ∧ ∀ (i : Nat) u, c[i]? = some u → w.cell? (ad.add (j * d.sz + i)) = some u
/-- The elements one behind the other, in the engine. -/
theorem lay_list {α : Type} (d : Kind α) {C : Ctx} : ∀ (xs : List α) (ρ : Rho) (s : St) (css : List (List Value)), Rel C ρ s C.w0 → (∀ h, s.n ≤ h → ρ h = none) → css.length = xs.length → (∀ (j : Nat) x c, xs[j]? = some x → css[j]? = some c → d.K C.w0 x c) →
    ∃ ρ' s', ∃ ess : List (List Value), Laid C ρ s ρ' s' ∧ ess.length = xs.length ∧ All2 (CR ρ') ess.flatten css.flatten ∧ (∀ (j : Nat) x e, xs[j]? = some x → ess[j]? = some e → e.length = d.sz ∧ d.E s' x e)
  | [], ρ, s, css, hr, ht, hl, _ => by
    have : css = [] := List.eq_nil_of_length_eq_zero (by simpa using hl)
    subst this
    exact ⟨ρ, s, [], Laid.refl hr ht, rfl, trivial, fun j x e h => by simp at h⟩
  | x :: xs, ρ, s, [], hr, ht, hl, _ => by simp at hl
  | x :: xs, ρ, s, c :: css, hr, ht, hl, h => by
    have hk := h 0 x c rfl rfl
    obtain ⟨ρ1, s1, e, l1, r1, g1⟩ := d.lay hr ht hk
    obtain ⟨ρ2, s2, ess, l2, hl2, r2, g2⟩ := lay_list d xs ρ1 s1 css l1.rel l1.top (by simpa using hl) fun j y z hy hz => h (j + 1) y z (by simpa using hy) (by simpa using hz)
    refine ⟨ρ2, s2, e :: ess, l1.trans l2, by simp [hl2], ?_, fun j y z hy hz => ?_⟩
    · simp only [List.flatten_cons]
      exact All2_append (All2_mono (fun _ _ => CR_mono l2.sub) r1) r2
    · cases j with
      | zero =>
        simp at hy hz; subst hy; subst hz
        exact ⟨by rw [All2_length r1]; exact d.K_len hk, d.E_ext l2.ext g1⟩
      | succ j => exact g2 j y z (by simpa using hy) (by simpa using hz)
theorem flat_get {sz : Nat} : ∀ {css : List (List Value)}, (∀ c ∈ css, c.length = sz) → ∀ (i : Nat) u, css.flatten[i]? = some u → ∃ j k c, i = j * sz + k ∧ k < sz ∧ css[j]? = some c ∧ c[k]? = some u
  | [], _, i, u, h => by simp at h
  | c :: css, hl, i, u, h => by
    have hc := hl c (by simp)
    simp only [List.flatten_cons] at h
    rcases Nat.lt_or_ge i c.length with h1 | h1
    · rw [List.getElem?_append_left h1] at h
      exact ⟨0, i, c, by simp, by omega, rfl, h⟩
    · rw [List.getElem?_append_right h1] at h
      obtain ⟨j, k, c', h2, h3, h4, h5⟩ := flat_get (fun c' hc' => hl c' (List.mem_cons_of_mem _ hc')) _ u h
      exact ⟨j + 1, k, c', by rw [Nat.add_mul]; omega, h3, by simpa using h4, h5⟩
theorem flat_at {sz : Nat} : ∀ {css : List (List Value)}, (∀ c ∈ css, c.length = sz) → ∀ (j : Nat) c, css[j]? = some c → (css.flatten.drop (j * sz)).take sz = c
  | [], _, j, c, h => by simp at h
  | c :: css, hl, 0, c', h => by
    simp at h; subst h
    have hc := hl c (by simp)
    simp only [List.flatten_cons, Nat.zero_mul, List.drop_zero]
    rw [← hc]; exact List.take_left
  | c :: css, hl, j + 1, c', h => by
    have hc := hl c (by simp)
    simp only [List.flatten_cons]
    rw [Nat.add_mul, Nat.one_mul, Nat.add_comm, ← hc, ← List.drop_drop, List.drop_left, hc]
    exact flat_at (fun c' hc' => hl c' (List.mem_cons_of_mem _ hc')) j c' (by simpa using h)
theorem flat_length {sz : Nat} : ∀ {css : List (List Value)}, (∀ c ∈ css, c.length = sz) → css.flatten.length = css.length * sz
  | [], _ => by simp
  | c :: css, hl => by
    rw [List.flatten_cons, List.length_append, flat_length fun c' hc' => hl c' (List.mem_cons_of_mem _ hc'), hl c (by simp), List.length_cons, Nat.add_mul]; omega
/-- A slice that came in: its row is laid, to be read only. -/
theorem lay_slice {α : Type} (d : Kind α) {C : Ctx} {xs : List α} {ρ : Rho} {s : St} {A : Option Addr} {cap : Nat} (hr : Rel C ρ s C.w0) (ht : ∀ h, s.n ≤ h → ρ h = none) (hcap : xs.length ≤ cap) (hA : RowAt d C.w0 A xs) (hsz : 0 < d.sz) :
    ∃ ρ' s' e, Laid C ρ s ρ' s' ∧ CR ρ' e (.slice A xs.length cap) ∧ Rd s' d.sz (d.E s') e xs := by
  have hcss : ∃ ad : Addr, (xs ≠ [] → A = some ad) ∧ ∃ css : List (List Value), css.length = xs.length ∧ (∀ (j : Nat) x c, xs[j]? = some x → css[j]? = some c → d.K C.w0 x c) ∧
      ∀ (j : Nat) c, css[j]? = some c → c.length = d.sz ∧ ∀ (i : Nat) u, c[i]? = some u → C.w0.cell? (ad.add (j * d.sz + i)) = some u := by
    by_cases h0 : xs = []
    · subst h0
      exact ⟨default, fun h => absurd rfl h, [], rfl, fun j x c h => by simp at h, fun j c h => by simp at h⟩
    · obtain ⟨ad, hA1, hA2⟩ := hA h0
      refine ⟨ad, fun _ => hA1, ?_⟩
      have : ∀ L, L ≤ xs.length → ∃ css : List (List Value), css.length = L ∧ (∀ (j : Nat) x c, xs[j]? = some x → css[j]? = some c → d.K C.w0 x c) ∧
          ∀ (j : Nat) c, css[j]? = some c → c.length = d.sz ∧ ∀ (i : Nat) u, c[i]? = some u → C.w0.cell? (ad.add (j * d.sz + i)) = some u := by
        intro L
        induction L with
        | zero => exact fun _ => ⟨[], rfl, fun j x c _ h => by simp at h, fun j c h => by simp at h⟩
        | succ L ih =>
          intro hL
          obtain ⟨css, h1, h2, h3⟩ := ih (by omega)
          obtain ⟨c, hc1, hc2, hc3⟩ := hA2 L xs[L] (List.getElem?_eq_getElem (by omega))
          have key : ∀ (j : Nat) c', (css ++ [c])[j]? = some c' → (css[j]? = some c') ∨ (j = L ∧ c' = c) := by
            intro j c' hj
            rcases Nat.lt_or_ge j css.length with h4 | h4
            · rw [List.getElem?_append_left h4] at hj; exact .inl hj
            · rw [List.getElem?_append_right h4] at hj
              have : j - css.length = 0 := by
                rcases Nat.eq_zero_or_pos (j - css.length) with h5 | h5
                · exact h5
                · rw [List.getElem?_eq_none (by simp; omega)] at hj; cases hj
              rw [this] at hj
              exact .inr ⟨by omega, by simpa using hj.symm⟩
          refine ⟨css ++ [c], by simp [h1], fun j x c' hx hj => ?_, fun j c' hj => ?_⟩
          · rcases key j c' hj with h4 | ⟨rfl, rfl⟩
            · exact h2 j x c' hx h4
            · rw [List.getElem?_eq_getElem (by omega)] at hx
              cases hx; exact hc2
          · rcases key j c' hj with h4 | ⟨rfl, rfl⟩
            · exact h3 j c' h4
            · exact ⟨hc1, hc3⟩
      exact this xs.length (Nat.le_refl _)
  obtain ⟨ad, had, css, hl, hK, hread⟩ := hcss
  obtain ⟨ρ1, s1, ess, l1, hle, hrel, hE⟩ := lay_list d xs ρ s css hr ht hl hK
  have hcl : ∀ c ∈ css, c.length = d.sz := fun c hc => by
    obtain ⟨j, hj, rfl⟩ := List.getElem_of_mem hc
    exact (hread j _ (List.getElem?_eq_getElem hj)).1
  have hel : ∀ c ∈ ess, c.length = d.sz := fun c hc => by
    obtain ⟨j, hj, rfl⟩ := List.getElem_of_mem hc
    exact (hE j xs[j] _ (List.getElem?_eq_getElem (by omega)) (List.getElem?_eq_getElem hj)).1
  have hfl := flat_length hel
  have hcell : ∀ (i : Nat) u, css.flatten[i]? = some u → C.w0.cell? (ad.add i) = some u := by
    intro i u hu
    obtain ⟨j, k, c, h1, h2, h3, h4⟩ := flat_get hcl i u hu
    rw [h1]; exact (hread j c h3).2 k u h4
  have hspot : xs ≠ [] → ad.spot = none := by
    intro h0
    have hpos : 0 < xs.length := List.length_pos_iff.2 h0
    have hlt : 0 < css.flatten.length := by rw [flat_length hcl, hl]; exact Nat.mul_pos hpos hsz
    have := hcell 0 css.flatten[0] (List.getElem?_eq_getElem hlt)
    simp only [Addr.add, if_true] at this
    unfold World.cell? at this
    split at this
    · split at this
      · cases this
      · rename_i hs; simpa using hs
    · cases this
  have hfree := l1.top s1.n (Nat.le_refl _)
  have hsub := sub_upd hfree ⟨ad.block, ad.off, 0, false⟩
  have hget : ∀ k ob, (s1.push ⟨ess.flatten, false⟩).get k = some ob → (k = s1.n ∧ ob = ⟨ess.flatten, false⟩) ∨ (k ≠ s1.n ∧ s1.get k = some ob) := fun k ob hk => by
    rw [St.get_push] at hk
    by_cases hh : k = s1.n
    · rw [if_pos hh] at hk; cases hk; exact .inl ⟨hh, rfl⟩
    · rw [if_neg hh] at hk; exact .inr ⟨hh, hk⟩
  have hexp := Ext.push s1 ⟨ess.flatten, false⟩
  refine ⟨upd ρ1 s1.n ⟨ad.block, ad.off, 0, false⟩, s1.push ⟨ess.flatten, false⟩, sl s1.n 0 xs.length d.sz, ⟨l1.ext.trans hexp, l1.sub.trans hsub, ⟨fun k p ob hk ho => ?_, fun k k' p p' ob ob' hk hk' ho ho' hp hp' hb => ?_, l1.rel.bel⟩, fun k hk => ?_⟩, ?_, ?_⟩
  · rcases hget k ob ho with ⟨rfl, rfl⟩ | ⟨hne, ho⟩
    · rw [upd_self] at hk; cases hk
      have hread2 : ∀ (i : Nat) x, ess.flatten[i]? = some x → ∃ u, C.w0.cell? ⟨ad.block, ad.off + i, none⟩ = some u ∧ CR ρ1 x u := by
        intro i x hx
        obtain ⟨u, hu, hr⟩ := All2_get i x hrel hx
        have hne : xs ≠ [] := by
          intro h0
          rw [h0] at hle
          have : ess = [] := List.eq_nil_of_length_eq_zero (by simpa using hle)
          rw [this] at hx; simp at hx
        have := hcell i u hu
        have hs := hspot hne
        obtain ⟨b, o, sp⟩ := ad
        simp only at hs; subst hs
        rw [Addr.add_lit] at this
        exact ⟨u, this, hr⟩
      refine ⟨rfl, fun i x hx => ?_, fun hh => (by cases hh), fun _ => ?_⟩
      · obtain ⟨u, h1, h2⟩ := hread2 i x hx
        exact ⟨u, h1, CR_mono hsub h2⟩
      · cases hf : ess.flatten with
        | nil => exact .inl rfl
        | cons x r =>
          right
          obtain ⟨u, h1, _⟩ := hread2 0 x (by rw [hf]; rfl)
          unfold World.cell? at h1
          split at h1
          · rename_i hb; exact (Array.getElem?_eq_some_iff.1 hb).1
          · cases h1
    · rw [upd_ne _ _ hne] at hk
      exact Con_of (l1.rel.con k p ob hk ho) hsub (.inl rfl)
  · rcases hget k ob ho with ⟨rfl, rfl⟩ | ⟨hne, ho⟩
    · rw [upd_self] at hk; cases hk; cases hp
    · rcases hget k' ob' ho' with ⟨rfl, rfl⟩ | ⟨hne', ho'⟩
      · rw [upd_self] at hk'; cases hk'; cases hp'
      · rw [upd_ne _ _ hne] at hk
        rw [upd_ne _ _ hne'] at hk'
        exact l1.rel.inj k k' p p' ob ob' hk hk' ho ho' hp hp' hb
  · rw [St.push_n] at hk
    rw [upd_ne _ _ (by omega)]; exact l1.top k (by omega)
  · refine ⟨_, A, cap, upd_self _ _ _, rfl, hcap, fun hn => ?_, fun hh => by cases hh⟩
    have hne : xs ≠ [] := fun h0 => hn (by rw [h0]; rfl)
    rw [had hne]
    have hs := hspot hne
    obtain ⟨b, o, sp⟩ := ad
    simp only at hs; subst hs
    rfl
  · refine ⟨ess.flatten, ⟨by rw [hfl, hle], .inr ⟨s1.n, 0, ⟨ess.flatten, false⟩, rfl, by rw [St.get_push, if_pos rfl], ?_, ?_⟩⟩, fun i x hx => ?_⟩
    · rw [hfl, hle]; omega
    · rw [List.drop_zero, ← hle, ← hfl, List.take_length]
    · have hi : i < ess.length := by rw [hle]; exact (List.getElem?_eq_some_iff.1 hx).1
      rw [flat_at hel i ess[i] (List.getElem?_eq_getElem hi)]
      exact d.E_ext hexp (hE i x _ hx (List.getElem?_eq_getElem hi)).2
/-- Slices. -/
def kSl {α : Type} (d : Kind α) (hsz : 0 < d.sz) : Kind (List α) where
  sz := 1
  K := fun w xs cs => ∃ A cap, cs = [.slice A xs.length cap] ∧ xs.length ≤ cap ∧ RowAt d w A xs
  E := fun s xs cs => ∃ v, cs = [v] ∧ Rd s d.sz (d.E s) v xs
  K_len := fun ⟨A, cap, h, _⟩ => by rw [h]; rfl
  E_ext := fun he ⟨v, h, hr⟩ => ⟨v, h, hr.ext he fun _ _ h => d.E_ext he h⟩
  lay := fun hr ht ⟨A, cap, h, hc, hA⟩ => by
    obtain ⟨ρ', s', e, l, hcr, hrd⟩ := lay_slice d hr ht hc hA hsz
    exact ⟨ρ', s', [e], l, by rw [h]; exact ⟨hcr, trivial⟩, e, rfl, hrd⟩
/-- The engine's memory when a law begins. -/
def s0 : St := ⟨0, fun _ => none⟩
theorem rel0 {C : Ctx} : Rel C (fun _ => none) s0 C.w0 := ⟨fun _ _ _ h => (by cases h), fun _ _ _ _ _ _ h => (by cases h), Below.refl _ _⟩
end Go.Proofs.Ytmikdglafmfnfaa.Eng
