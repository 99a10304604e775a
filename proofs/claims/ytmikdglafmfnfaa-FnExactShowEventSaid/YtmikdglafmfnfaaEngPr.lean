/- The pure engine's truth: code. -/
import Derived.Test.YtmikdglafmfnfaaEngPq
namespace Go.Proofs.Ytmikdglafmfnfaa.Eng
open Go Go.RowKit
set_option linter.unusedVariables false
set_option linter.unusedSimpArgs false
set_option linter.constructorNameAsVariable false
/-- What the ways out of the text allow, the ways out of the code allow. -/
def KapR (B : Bas) (ro : List (List T)) (pv : List Value) (κ2 : Kap2) (κ1 : Kap) : Prop := ∀ e m env pins env1, κ2 e ⟨m.ob, m.nk, env, pins⟩ → Mem B ro m → EnvR ro m env env1 → PinOk ro m pins pv → κ1 e env1 m.s
theorem loop_sound {C : Ctx} {F1 : (List Value → Q) → List Value → Q} {xs1 : List Value} {s : St} (h : ∀ R : List Value → Q, (∀ xs s, F1 R xs s → R xs s) → R xs1 s) : loopM F1 xs1 s := h
theorem exec2_sound {C : Ctx} {B : Bas} {ro : List (List T)} {sgs : List (Nat × Sg)} {an : List (Nat × List Nat)} {js : List (Nat × JS)} {rm nt : Nat} {pv : List Value} : ∀ (c : Code) (pos : Nat) (m : Mst) (env : Env2) (pins : List E0) (env1 : Env) (lo : Nat) (exs : List (Nat × Nat)) (κ2 : Kap2) (κ1 : Kap), Mem B ro m → EnvR ro m env env1 → PinOk ro m pins pv → KapR B ro pv κ2 κ1 →
    exec2 C sgs ro an js rm nt c pos ⟨m.ob, m.nk, env, pins⟩ lo exs κ2 → exec C an rm nt c env1 lo exs κ1 m.s
  | .skip, pos, m, env, pins, env1, lo, exs, κ2, κ1, hm, hE, hP, hK, h => hK .nor m env pins env1 h hm hE hP
  | .region id ops false, pos, m, env, pins, env1, lo, exs, κ2, κ1, hm, hE, hP, hK, h => by
    simp only [exec]
    exact run2_sound (K := fun ob nk env => κ2 .nor ⟨ob, nk, env, pins⟩) (Φ := fun m => PinOk ro m pins pv) (fun m m' aff kl h hn => h.next hn) (fun m env env1 h hm hE hP => hK .nor m env pins env1 h hm hE hP) _ m env env1 hm hE hP h
  | .region id ops true, pos, m, env, pins, env1, lo, exs, κ2, κ1, hm, hE, hP, hK, h => by
    simp only [exec2] at h
    simp only [exec]
    split at h
    · exact h.elim
    · rename_i L hl
      simp only [hl]
      split at h
      · rename_i hd
        simp only [hd]
        exact draw2_sound (K := fun ob nk env => κ2 .nor ⟨ob, nk, env, pins⟩) (Φ := fun m => PinOk ro m pins pv) (fun m m' aff kl h hn => h.next hn) (fun m env env1 h hm hE hP => hK .nor m env pins env1 h hm hE hP) _ 0 m env env1 [] [] [] [] hm hE trivial trivial hP h
      · exact h.elim
  | .seq a b, pos, m, env, pins, env1, lo, exs, κ2, κ1, hm, hE, hP, hK, h => by
    simp only [exec2] at h
    simp only [exec]
    split at h
    · rename_i he
      simp only [he]
      refine exec2_sound a _ m env pins env1 _ _ _ _ hm hE hP (fun e m' env' pins' env1' h' hm' hE' hP' => ?_) h
      cases e with
      | nor => exact exec2_sound b _ m' env' pins' env1' _ _ _ _ hm' hE' hP' hK h'
      | ext i => exact hK (.ext i) m' env' pins' env1' h' hm' hE' hP'
      | rt => exact hK .rt m' env' pins' env1' h' hm' hE' hP'
    · rename_i he
      simp only [he]
      split at h
      · exact h.elim
      · rename_i J hJ
        simp only [joinP, joinM] at h ⊢
        refine exec2_sound a _ m env pins env1 _ _ _ _ hm hE hP (fun e m' env' pins' env1' h' hm' hE' hP' => ?_) h
        cases e with
        | nor =>
          obtain ⟨xs, cs, g1, A', g2, g3, g4⟩ := meet_sound (L := bitsOf (live rm b lo exs) nt) hm' hE' hP' hm.kok.ro h'
          exact exec2_sound b _ ⟨m'.s, _, _, A'⟩ _ _ _ _ _ _ _ g2 g3 g4 hK g1
        | ext i => exact hK (.ext i) m' env' pins' env1' h' hm' hE' hP'
        | rt => exact hK .rt m' env' pins' env1' h' hm' hE' hP'
  | .cond c x y, pos, m, env, pins, env1, lo, exs, κ2, κ1, hm, hE, hP, hK, h => by
    simp only [exec2] at h
    simp only [exec]
    split at h
    · rename_i v hv
      have hc := ev_val hE (fun g w h => by simp [mem2] at h) hv
      rcases h with ⟨h1, h2⟩ | ⟨h1, h2⟩
      · exact .inl ⟨by rw [hc, h1], exec2_sound x _ m env pins env1 _ _ _ _ hm hE hP hK h2⟩
      · exact .inr ⟨by rw [hc, h1], exec2_sound y _ m env pins env1 _ _ _ _ hm hE hP hK h2⟩
    · exact h.elim
  | .block id c, pos, m, env, pins, env1, lo, exs, κ2, κ1, hm, hE, hP, hK, h => by
    simp only [exec2] at h
    simp only [exec]
    refine exec2_sound c _ m env pins env1 _ _ _ _ hm hE hP (fun e m' env' pins' env1' h' hm' hE' hP' => ?_) h
    cases e with
    | nor => exact hK .nor m' env' pins' env1' h' hm' hE' hP'
    | ext i =>
      simp only [blkK2] at h'
      simp only [blkK]
      cases hi : Nat.beq i id with
      | true => rw [hi] at h'; exact hK .nor m' env' pins' env1' h' hm' hE' hP'
      | false => rw [hi] at h'; exact hK (.ext i) m' env' pins' env1' h' hm' hE' hP'
    | rt => exact hK .rt m' env' pins' env1' h' hm' hE' hP'
  | .loop c, pos, m, env, pins, env1, lo, exs, κ2, κ1, hm, hE, hP, hK, h => by
    simp only [exec2] at h
    simp only [exec]
    split at h
    · exact h.elim
    · rename_i J hJ
      obtain ⟨xs, cs, g1, A', g2, g3, g4⟩ := meet_sound (L := bitsOf (live rm (.loop c) 0 exs) nt) hm hE hP hm.kok.ro h
      refine loop_sound (C := C) fun R hR => ?_
      have key := g1 (fun xs cs => ∀ (A' : Nat → Asg) (s : St) (ys : List Value), Mem B ro ⟨s, (inJ J (bitsOf (live rm (.loop c) 0 exs) nt) m.nk xs cs).ob, (inJ J (bitsOf (live rm (.loop c) 0 exs) nt) m.nk xs cs).nk, A'⟩ →
          EnvR ro ⟨s, (inJ J (bitsOf (live rm (.loop c) 0 exs) nt) m.nk xs cs).ob, (inJ J (bitsOf (live rm (.loop c) 0 exs) nt) m.nk xs cs).nk, A'⟩ (inJ J (bitsOf (live rm (.loop c) 0 exs) nt) m.nk xs cs).env (inj (bitsOf (live rm (.loop c) 0 exs) nt) 0 ys) → PinOk ro ⟨s, (inJ J (bitsOf (live rm (.loop c) 0 exs) nt) m.nk xs cs).ob, (inJ J (bitsOf (live rm (.loop c) 0 exs) nt) m.nk xs cs).nk, A'⟩ (inJ J (bitsOf (live rm (.loop c) 0 exs) nt) m.nk xs cs).pins pv → R ys s) ?_
      · exact key A' m.s _ g2 g3 g4
      · intro xs' cs' hbody A2 s2 ys hm2 hE2 hP2
        refine hR ys s2 ?_
        refine exec2_sound c _ ⟨s2, _, _, A2⟩ _ _ _ _ _ _ _ hm2 hE2 hP2 (fun e m' env' pins' env1' h' hm' hE' hP' => ?_) hbody
        cases e with
        | nor =>
          obtain ⟨xs3, cs3, k1, A3, k2, k3, k4⟩ := meet_sound (L := bitsOf (live rm (.loop c) 0 exs) nt) hm' hE' hP' hm.kok.ro h'
          exact k1 A3 m'.s _ k2 k3 k4
        | ext i => exact hK (.ext i) m' env' pins' env1' h' hm' hE' hP'
        | rt => exact hK .rt m' env' pins' env1' h' hm' hE' hP'
  | .exit id, pos, m, env, pins, env1, lo, exs, κ2, κ1, hm, hE, hP, hK, h => hK (.ext id) m env pins env1 h hm hE hP
  | .ret, pos, m, env, pins, env1, lo, exs, κ2, κ1, hm, hE, hP, hK, h => hK .rt m env pins env1 h hm hE hP
end Go.Proofs.Ytmikdglafmfnfaa.Eng
