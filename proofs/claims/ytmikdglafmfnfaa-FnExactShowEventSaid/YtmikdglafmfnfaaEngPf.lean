/- The pure engine's truth: writing. -/
import Derived.Test.YtmikdglafmfnfaaEngPe
namespace Go.Proofs.Ytmikdglafmfnfaa.Eng
open Go Go.RowKit
set_option linter.unusedVariables false
set_option linter.unusedSimpArgs false
theorem killO_nil : ∀ {ob : Obs}, killO [] ob = ob
  | [] => rfl
  | (a, .bx xs) :: r => by
    have hf : killE [] = id := funext fun _ => killE_nil
    simp [killO, hf, killO_nil]
  | (a, .ls o cs) :: r => by simp [killO, killO_nil]
theorem killB_nil (o : Ob2) : killB [] o = o := by
  cases o with
  | bx xs =>
    have hf : killE [] = id := funext fun _ => killE_nil
    simp [killB, hf]
  | ls _ _ => rfl
theorem look2_set {ro : List (List T)} {ob : Obs} {k k' : Nat} {o o' : Ob2} (hl : lookO ob k = some o) : look2 ro (setO ob k o') k' = if k = k' then some o' else look2 ro ob k' := by
  unfold look2; rw [lookO_set, hl]
  by_cases h : k = k'
  · simp [h]
  · simp [h]
/-- One object of one's own is changed, others go. -/
theorem Step.chg {B : Bas} {ro : List (List T)} {m : Mst} {ob1 : Obs} {dl kl : List Nat} {k : Nat} {o o' : Ob2} {a : Asg} {s' : St} (hm : Mem B ro m) (hg : Gone ro m.ob ob1 m.nk dl) (hl : lookO ob1 k = some o) (ho : isOwn o = true) (hn : m.s.n ≤ s'.n)
    (hfr : ∀ h, h < m.s.n → (∀ k' ∈ dl, h ∉ (m.A k').F) → h ∉ (m.A k).F → s'.get h = m.s.get h) (hnd : a.F.Nodup) (hF : ∀ h ∈ a.F, (∃ k' ∈ dl, h ∈ (m.A k').F) ∨ h ∈ (m.A k).F ∨ m.s.n ≤ h)
    (h0 : Kp0 ro m ⟨s', killO kl (setO ob1 k o'), m.nk, updA m.A k a⟩ k) (hd : kl.any (Nat.beq k) = false → Deep ro m ⟨s', killO kl (setO ob1 k o'), m.nk, updA m.A k a⟩ k) :
    Step B ro m ⟨s', killO kl (setO ob1 k o'), m.nk, updA m.A k a⟩ kl (fun k' => k' ≠ k ∧ k' ∉ dl ∧ ∃ o, look2 ro m.ob k' = some o) := by
  have hl2 := look2_own (ro := ro) hl
  have hkd : k ∉ dl := by
    intro hk; rw [hg.look, if_pos hk] at hl2; cases hl2
  have hlm : look2 ro m.ob k = some o := by rw [hg.look, if_neg hkd] at hl2; exact hl2
  have hnew : ∀ k', look2 ro (killO kl (setO ob1 k o')) k' = if k = k' then some (killB kl o') else if k' ∈ dl then none else (look2 ro m.ob k').map (killB kl) := fun k' => by
    rw [look2_kill, look2_set hl, hg.look]
    by_cases h : k = k'
    · simp [h]
    · by_cases h2 : k' ∈ dl <;> simp [h, h2]
  have hkey : ∀ k' x, look2 ro (killO kl (setO ob1 k o')) k' = some x → ¬ (k' ≠ k ∧ k' ∉ dl ∧ ∃ o, look2 ro m.ob k' = some o) → k' = k := by
    intro k' x hx hu
    rw [hnew] at hx
    by_cases e : k = k'
    · exact e.symm
    · rw [if_neg e] at hx
      by_cases hd : k' ∈ dl
      · rw [if_pos hd] at hx; cases hx
      · rw [if_neg hd] at hx
        cases hq : look2 ro m.ob k' with
        | none => rw [hq] at hx; cases hx
        | some y => exact absurd ⟨Ne.symm e, hd, y, hq⟩ hu
  have hnot : ∀ k', k' ≠ k → ¬ (k' ≠ k ∧ k' ∉ dl ∧ ∃ o, look2 ro m.ob k' = some o) → look2 ro (killO kl (setO ob1 k o')) k' = none := by
    intro k' hne hu
    cases hx : look2 ro (killO kl (setO ob1 k o')) k' with
    | none => rfl
    | some x => exact absurd (hkey k' x hx hu) hne
  refine ⟨hn, Nat.le_refl _, hg.kok.set.kill, fun k' hu => ?_, fun h hh hx => hfr h hh (fun k' hk' => ?_) ?_, fun k' hk hu => ?_, fun k' hk hu hq => ?_, fun k' x hx hu => ?_, fun k1 k2 o1 o2 hne h1 h2 u1 u2 => ?_⟩
  · obtain ⟨hne, hd, x, hx⟩ := hu
    refine ⟨x, hx, ?_, updA_ne hne⟩
    rw [hnew, if_neg (Ne.symm hne), if_neg hd, hx]; rfl
  · obtain ⟨x, hx', how⟩ := hg.own k' hk'
    exact hx k' x hx' (fun hu => hu.2.1 hk') how
  · exact hx k o hlm (fun hu => hu.1 rfl) ho
  · by_cases e : k' = k
    · subst e; exact h0
    · intro x hx; rw [hnot k' e hu] at hx; cases hx
  · by_cases e : k' = k
    · subst e; exact hd hq
    · intro own cs own' cs' _ h2; rw [hnot k' e hu] at h2; cases h2
  · have := hkey k' x hx hu
    subst this
    simp only [updA_self]
    refine ⟨hnd, fun h hh => ?_⟩
    rcases hF h hh with ⟨k1, hk1, hx1⟩ | hx1 | hx1
    · obtain ⟨o1, ho1, how⟩ := hg.own k1 hk1
      exact .inl ⟨k1, o1, ho1, fun hu => hu.2.1 hk1, how, hx1⟩
    · exact .inl ⟨k', o, hlm, fun hu => hu.1 rfl, ho, hx1⟩
    · exact .inr hx1
  · rw [hkey k1 o1 h1 u1, hkey k2 o2 h2 u2] at hne
    exact absurd rfl hne
theorem chg_out {C : Ctx} {B : Bas} {ro : List (List T)} {m : Mst} {ob1 : Obs} {dl kl aff : List Nat} {k : Nat} {o o' : Ob2} {a : Asg} {s' : St} {st : Stp} {v : Value} {e : EV} (hm : Mem B ro m) (hg : Gone ro m.ob ob1 m.nk dl) (hl : lookO ob1 k = some o) (ho : isOwn o = true) (hn : m.s.n ≤ s'.n)
    (hfr : ∀ h, h < m.s.n → (∀ k' ∈ dl, h ∉ (m.A k').F) → h ∉ (m.A k).F → s'.get h = m.s.get h) (hnd : a.F.Nodup) (hF : ∀ h ∈ a.F, (∃ k' ∈ dl, h ∈ (m.A k').F) ∨ h ∈ (m.A k).F ∨ m.s.n ≤ h)
    (h0 : Kp0 ro m ⟨s', killO kl (setO ob1 k o'), m.nk, updA m.A k a⟩ k) (hd : kl.any (Nat.beq k) = false → Deep ro m ⟨s', killO kl (setO ob1 k o'), m.nk, updA m.A k a⟩ k)
    (hgo : stpGoes C st m.s v s') (hob : Kp ro m ⟨s', killO kl (setO ob1 k o'), m.nk, updA m.A k a⟩ kl → ObR ro ⟨s', killO kl (setO ob1 k o'), m.nk, updA m.A k a⟩ k (killB kl o'))
    (hev : EVR (E0R ro ⟨s', killO kl (setO ob1 k o'), m.nk, updA m.A k a⟩) e v) (haf : ∀ k o, look2 ro m.ob k = some o → aff.any (Nat.beq k) = false → ∀ h ∈ (m.A k).F, s'.get h = m.s.get h) :
    Out C B ro m aff kl st v e ⟨s', killO kl (setO ob1 k o'), m.nk, updA m.A k a⟩ := by
  have hst := Step.chg (o' := o') (kl := kl) (B := B) hm hg hl ho hn hfr hnd hF h0 hd
  have hkp := hst.kp hm
  have hro : ∀ j, j < ro.length → j ≠ k := fun j hj he => by
    subst he
    have := hg.kok.lt _ (lookO_mem hl); simp at this; omega
  refine ⟨hgo, hst.mem hm fun k' x hx hu => ?_, hkp, hev, haf, hn, fun j hj => updA_ne (hro j hj)⟩
  have hk' : k' = k ∧ x = killB kl o' := by
    have h2 := hx
    simp only [look2_kill, look2_set hl, hg.look] at h2
    by_cases e : k = k'
    · subst e; simp at h2; exact ⟨rfl, h2.symm⟩
    · rw [if_neg e] at h2
      by_cases hd : k' ∈ dl
      · simp [hd] at h2
      · simp only [hd, if_false] at h2
        cases hq : look2 ro m.ob k' with
        | none => rw [hq] at h2; cases h2
        | some y => exact absurd ⟨Ne.symm e, hd, y, hq⟩ hu
  obtain ⟨rfl, rfl⟩ := hk'
  exact hob hkp
theorem get_put_ne {s : St} {h h' : Nat} {x : Option Ob} (hne : h' ≠ h) : (s.put h x).get h' = s.get h' := by
  unfold St.get; rw [St.put_n, St.put_o, if_neg hne]
theorem get_put_self {s : St} {h : Nat} {x : Option Ob} (hh : h < s.n) : (s.put h x).get h = x := by rw [St.get_put _ _ _ _ hh, if_pos rfl]
theorem sto_ok {sz : Nat} {v : Value} {s : St} {h off : Nat} {ob : Ob} (hg : s.get h = some ob) (ho : ob.own = true) (hv : vok v = true) (hl : (cellsOf v).length = sz) (hle : off + sz ≤ ob.cells.length) :
    sto sz (pt h off) v s = some (undef, s.put h (some ⟨splice ob.cells off (cellsOf v), true⟩)) := by
  obtain ⟨cs, own⟩ := ob
  cases ho
  subst hl
  simp only [sto, pt, hg, Option.bind_some, hv, beq_self_eq_true, decide_eq_true hle, Bool.and_self, Bool.true_and, if_true]
/-- A write into a box. -/
theorem store_box {C : Ctx} {B : Bas} {ro : List (List T)} {m : Mst} {k off sz : Nat} {xs ys : List E0} {u v : Value} (hm : Mem B ro m) (hl : lookO m.ob k = some (.bx xs)) (hu : E0R ro m (.p k off) u) (hv : vok v = true) (hy : AllE (E0R ro m) ys (cellsOf v))
    (hsz : ys.length = sz) (hle : off + sz ≤ xs.length) : ∃ s', Out C B ro m [k] [] (.mu (sto sz u v)) undef (.o .w) ⟨s', setO m.ob k (.bx (xs.take off ++ (ys ++ xs.drop (off + ys.length)))), m.nk, m.A⟩ := by
  have hl2 := look2_own (ro := ro) hl
  obtain ⟨hF, us, hg, ha⟩ := hm.obr k _ hl2
  have hpt := hu.2.2 xs hl2
  subst hpt
  have hlen := AllE_len ha
  have hcl := AllE_len hy
  have hlt : (m.A k).h < m.s.n := St.get_lt hg
  have hgo : sto sz (pt (m.A k).h off) v m.s = some (undef, m.s.put (m.A k).h (some ⟨splice us off (cellsOf v), true⟩)) := sto_ok hg rfl hv (by omega) (by simp; omega)
  have hA : updA m.A k (m.A k) = m.A := funext fun x => by unfold updA; split <;> simp [*]
  have hfr : ∀ h, h ∉ (m.A k).F → (m.s.put (m.A k).h (some ⟨splice us off (cellsOf v), true⟩)).get h = m.s.get h := fun h hh => get_put_ne (fun he => hh (by rw [hF, he]; simp))
  have hown := hm.own k _ hl2 rfl
  have key := chg_out (C := C) (B := B) (kl := []) (aff := [k]) (o' := .bx (xs.take off ++ (ys ++ xs.drop (off + ys.length)))) (a := m.A k) (st := .mu (sto sz (pt (m.A k).h off) v)) (v := undef) (e := .o .w) hm (Gone.nil hm.kok) hl rfl
    (s' := m.s.put (m.A k).h (some ⟨splice us off (cellsOf v), true⟩)) (Nat.le_refl _) (fun h _ _ hh => hfr h hh) hown.1 (fun h hh => .inr (.inl hh)) ?_ ?_ hgo ?_ trivial ?_
  · rw [killO_nil, hA] at key
    exact ⟨_, key⟩
  · intro o2 ho2
    simp only [killO_nil, look2_set hl, if_true, Option.some.injEq] at ho2
    subst ho2
    exact ⟨⟨xs, hl2⟩, by rw [hA]⟩
  · intro _ own cs own' cs' h1 _
    rw [hl2] at h1; cases h1
  · intro hkp
    simp only [killB_nil]
    refine ⟨by simp only [updA_self]; exact hF, splice us off (cellsOf v), by simp only [updA_self]; exact get_put_self hlt, ?_⟩
    have hk : ∀ x u, E0R ro m x u → E0R ro _ x u := fun x u hx => by have := hkp.e0 hx; rwa [killE_nil] at this
    have hf : (fun x : E0 => x) = id := rfl
    have a1 := AllE_map (f := fun x => x) hk ha
    have a2 := AllE_map (f := fun x => x) hk hy
    rw [hf, List.map_id] at a1 a2
    have e : splice us off (cellsOf v) = us.take off ++ (cellsOf v ++ us.drop (off + ys.length)) := by unfold splice; rw [List.append_assoc, hcl]
    exact (congrArg (AllE (E0R ro _) _) e).mpr (AllE_app (AllE_take off a1) (AllE_app a2 (AllE_drop _ a1)))
  · intro k' o2 ho2 hne h hh
    refine hfr h fun hx => ?_
    have : k' ≠ k := fun he => by subst he; simp at hne
    exact hm.dis k k' _ o2 (Ne.symm this) hl2 ho2 rfl h hx hh
/-! ### Writing into a tree -/
theorem nput_length : ∀ {pre : List Nat} {cs ds ds' : List T}, node cs pre = some ds → ds'.length = ds.length → (nput cs pre ds').length = cs.length
  | [], cs, ds, ds', hn, hl => by simp only [Eng.node, Option.some.injEq] at hn; subst hn; simpa [nput] using hl
  | i :: r, cs, ds, ds', hn, hl => by
    simp only [nput]; split
    · simp
    · rfl
theorem set_eq_parts {α : Type} (l : List α) (i : Nat) (x : α) (h : i < l.length) : l.set i x = l.take i ++ ([x] ++ l.drop (i + [x].length)) := by
  rw [List.set_eq_take_append_cons_drop, if_pos h]; rfl
theorem lput_length {ds ts : List T} {off : Nat} (h : off + ts.length ≤ ds.length) : (lput ds off ts).length = ds.length := by
  unfold lput; simp; omega
/-- In place of the cells at a spot others: the rest stays. W: what the new state makes of the row at the spot. -/
theorem Win.put {s s' : St} {h' b' : Nat} {ds ds' : List T} {Fn : List Nat} : ∀ {pre : List Nat} {cs : List T} {h b : Nat} {F : List Nat}, Win s true cs h b F → F.Nodup → Eng.node cs pre = some ds → spot s h b pre = some (h', b') → ds'.length = ds.length →
    (∀ G, G.Sublist F → Win s true ds h' b' G → ∃ G', Win s' true ds' h' b' G' ∧ G'.Nodup ∧ (∀ x ∈ G', x ∈ G ∨ x ∈ Fn) ∧ ∀ x ∈ F, x ∉ G → s'.get x = s.get x) → (∀ x ∈ Fn, x ∉ F) →
    ∃ F2, Win s' true (nput cs pre ds') h b F2 ∧ F2.Nodup ∧ ∀ x ∈ F2, x ∈ F ∨ x ∈ Fn
  | [], cs, h, b, F, hw, hnd, hn, hs, hl, hW, hFn => by
    simp only [Eng.node, Option.some.injEq] at hn; subst hn
    simp only [spot, Option.some.injEq, Prod.mk.injEq] at hs
    obtain ⟨rfl, rfl⟩ := hs
    obtain ⟨G', g1, g2, g3, _⟩ := hW F (List.Sublist.refl _) hw
    exact ⟨G', g1, g2, g3⟩
  | i :: r, cs, h, b, F, hw, hnd, hn, hs, hl, hW, hFn => by
    simp only [Eng.node] at hn
    obtain ⟨ob, F1, h1, h2, h3, h4, rfl⟩ := hw
    split at hn
    · rename_i e es hi
      have hlt := (List.getElem?_eq_some_iff.1 hi).1
      obtain ⟨Fa, Fb, Fc, rfl, k1, k2, k3⟩ := TRs_mid h4 i 1
      have e1 : (cs.drop i).take 1 = [.l e es] := by rw [List.take_one, List.head?_drop, hi]; rfl
      rw [e1] at k2
      obtain ⟨u, hu, ht⟩ := TRs_one.1 k2
      have hu' : ob.cells[b + i]? = some u := by
        rw [← win_at _ _ _ _ hlt]
        rw [List.take_one, List.head?_drop] at hu
        cases hx : ((ob.cells.drop b).take cs.length)[i]? with
        | none => rw [hx] at hu; simp at hu
        | some y => rw [hx] at hu; simp at hu; rw [hu]
      simp only [spot, h1, hu'] at hs
      rcases TR_l.1 ht with ⟨rfl, _⟩ | ⟨x1, b1, n1, rfl, hlen, hw1⟩
      · simp [nl] at hs
      · simp only [sl] at hs
        have hnd1 := List.nodup_cons.1 hnd
        have hndb : Fb.Nodup := (List.nodup_append.1 (List.nodup_append.1 hnd1.2).2.1).1
        have hab := (List.nodup_append.1 hnd1.2).2.2
        have hbc := (List.nodup_append.1 (List.nodup_append.1 hnd1.2).2.1).2.2
        have hbs : Fb.Sublist (h :: (Fa ++ (Fb ++ Fc))) := ((List.sublist_append_left Fb Fc).trans (List.sublist_append_right Fa _)).cons _
        have hsame : ∀ G, G.Sublist Fb → Win s true ds h' b' G → ∃ G', Win s' true ds' h' b' G' ∧ G'.Nodup ∧ (∀ x ∈ G', x ∈ G ∨ x ∈ Fn) ∧ ∀ x ∈ h :: (Fa ++ (Fb ++ Fc)), x ∉ G → s'.get x = s.get x :=
          fun G hG hGw => hW G (hG.trans hbs) hGw
        obtain ⟨G0, hG0, hG0w⟩ : ∃ G, G.Sublist Fb ∧ Win s true ds h' b' G := by
          rcases hw1.node hn with ⟨_, _, hh⟩ | ⟨h'', b'', F3, a1, a2, a3⟩
          · rw [hh] at hs; cases hs
          · rw [a1] at hs; cases hs
            exact ⟨F3, a3, a2⟩
        obtain ⟨_, _, _, _, hrest⟩ := hsame G0 hG0 hG0w
        have hkeep : ∀ x ∈ h :: (Fa ++ (Fb ++ Fc)), x ∉ Fb → s'.get x = s.get x := fun x hx hnb => hrest x hx fun hg => hnb (hG0.subset hg)
        obtain ⟨F2, g1, g2, g3⟩ := Win.put hw1 hndb hn hs hl (fun G hG hGw => by
          obtain ⟨G', a1, a2, a3, a4⟩ := hsame G hG hGw
          exact ⟨G', a1, a2, a3, fun x hx => a4 x (by simp [hx])⟩) (fun x hx hb => hFn x hx (by simp [hb]))
        have hh : s'.get h = some ob := by rw [hkeep h (by simp) (fun hb => hnd1.1 (by simp [hb]))]; exact h1
        refine ⟨h :: (Fa ++ (F2 ++ Fc)), ⟨ob, _, hh, h2, ?_, ?_, rfl⟩, ?_, fun x hx => ?_⟩
        · simp only [nput, hi, List.length_set]; exact h3
        · simp only [nput, hi, List.length_set]
          rw [set_eq_parts _ _ _ hlt]
          have hval : (ob.cells.drop b).take cs.length = ((ob.cells.drop b).take cs.length).take i ++ ([sl x1 b1 n1 e] ++ ((ob.cells.drop b).take cs.length).drop (i + 1)) := by
            conv => lhs; rw [← List.take_append_drop i ((ob.cells.drop b).take cs.length)]
            congr 1
            rw [← List.drop_drop]
            conv => lhs; rw [← List.take_append_drop 1 (((ob.cells.drop b).take cs.length).drop i)]
            rw [hu]
          rw [hval]
          refine TRs_put (Fb := Fb) (ts' := [.l e (nput es r ds')]) k1 k3 (TRs_one.2 ⟨_, rfl, TR_l.2 (.inr ⟨x1, b1, n1, rfl, by rw [nput_length hn hl]; exact hlen, g1⟩)⟩) (fun x hx => hkeep x (by simp [hx]) fun hb => ?_) (fun x hx => hkeep x (by simp [hx]) fun hb => ?_)
          · exact hab x hx x (by simp [hb]) rfl
          · exact hbc x hb x hx rfl
        · refine List.nodup_cons.2 ⟨fun hx => ?_, List.nodup_append.2 ⟨(List.nodup_append.1 hnd1.2).1, List.nodup_append.2 ⟨g2, (List.nodup_append.1 (List.nodup_append.1 hnd1.2).2.1).2.1, fun x hx y hy he => ?_⟩, fun x hx y hy he => ?_⟩⟩
          · rcases List.mem_append.1 hx with hx | hx
            · exact hnd1.1 (by simp [hx])
            · rcases List.mem_append.1 hx with hx | hx
              · rcases g3 h hx with hx | hx
                · exact hnd1.1 (by simp [hx])
                · exact hFn h hx (by simp)
              · exact hnd1.1 (by simp [hx])
          · subst he
            rcases g3 x hx with hx | hx
            · exact hbc x hx x hy rfl
            · exact hFn x hx (by simp [hy])
          · subst he
            rcases List.mem_append.1 hy with hy | hy
            · rcases g3 x hy with hy | hy
              · exact hab x hx x (by simp [hy]) rfl
              · exact hFn x hy (by simp [hx])
            · exact hab x hx x (by simp [hy]) rfl
        · rcases List.mem_cons.1 hx with rfl | hx
          · exact .inl (by simp)
          · rcases List.mem_append.1 hx with hx | hx
            · exact .inl (by simp [hx])
            · rcases List.mem_append.1 hx with hx | hx
              · rcases g3 x hx with hx | hx
                · exact .inl (by simp [hx])
                · exact .inr hx
              · exact .inl (by simp [hx])
    · cases hn
/-! ### A plain cell -/
theorem spot_put {s : St} {h0 : Nat} {ob ob' : Ob} (hg : s.get h0 = some ob) (hc : ∀ (i : Nat) (x b1 n e : Nat), ob.cells[i]? = some (Value.slice (some ⟨x, b1, none⟩) n e) → ob'.cells[i]? = some (Value.slice (some ⟨x, b1, none⟩) n e)) : ∀ {pre : List Nat} {h b : Nat} {hb : Nat × Nat}, spot s h b pre = some hb → spot (s.put h0 (some ob')) h b pre = some hb
  | [], h, b, hb, hs => hs
  | i :: r, h, b, hb, hs => by
    simp only [spot] at hs
    split at hs
    · rename_i ob1 h1
      split at hs
      · rename_i x y n e h2
        simp only [spot]
        by_cases he : h = h0
        · subst he
          rw [hg] at h1; cases h1
          rw [get_put_self (St.get_lt hg)]
          simp only [hc _ _ _ _ _ h2]
          exact spot_put hg hc hs
        · rw [get_put_ne he, h1]
          simp only [h2]
          exact spot_put hg hc hs
      · cases hs
    · cases hs
theorem node_put_scal {off : Nat} {a w : Value} : ∀ {pre : List Nat} {cs ds : List T}, node cs pre = some ds → ds[off]? = some (.c w) → ∀ {pre2 : List Nat} {ds2 : List T}, node cs pre2 = some ds2 → ∃ ds2', node (nput cs pre (lput ds off [.c a])) pre2 = some ds2' ∧ ds2'.length = ds2.length
  | [], cs, ds, hn, hd, pre2, ds2, h2 => by
    simp only [node, Option.some.injEq] at hn; subst hn
    have hlt := (List.getElem?_eq_some_iff.1 hd).1
    have hs : lput cs off [.c a] = cs.set off (.c a) := (set_eq_parts _ _ _ hlt).symm
    simp only [nput, hs]
    cases pre2 with
    | nil => simp only [node, Option.some.injEq] at h2; subst h2; exact ⟨_, rfl, by simp⟩
    | cons i r =>
      simp only [node] at h2
      split at h2
      · rename_i e es hi
        have hne : off ≠ i := fun he => by subst he; rw [hd] at hi; cases hi
        exact ⟨ds2, by simp only [node, List.getElem?_set_ne hne, hi]; exact h2, rfl⟩
      · cases h2
  | j :: r, cs, ds, hn, hd, pre2, ds2, h2 => by
    simp only [node] at hn
    split at hn
    · rename_i e es hj
      have hlt := (List.getElem?_eq_some_iff.1 hj).1
      cases pre2 with
      | nil =>
        simp only [node, Option.some.injEq] at h2; subst h2
        exact ⟨_, rfl, by simp only [nput, hj, List.length_set]⟩
      | cons i r2 =>
        simp only [node] at h2
        split at h2
        · rename_i e2 es2 hi
          simp only [nput, hj]
          by_cases he : j = i
          · subst he
            rw [hj] at hi; cases hi
            simp only [node, List.getElem?_set_self hlt]
            exact node_put_scal hn hd h2
          · exact ⟨ds2, by simp only [node, List.getElem?_set_ne he, hi]; exact h2, rfl⟩
        · cases h2
    · cases hn
theorem splice_ne {l : List Value} {off : Nat} {v x : Value} {i : Nat} (hl : off + 1 ≤ l.length) (hx : l[i]? = some x) (hne : i ≠ off) : (splice l off [v])[i]? = some x := by
  rw [splice_get _ _ _ (by simpa using hl), if_neg (by simp; omega)]; exact hx
theorem store_c {C : Ctx} {B : Bas} {ro : List (List T)} {m : Mst} {k off : Nat} {pre : List Nat} {cs : List T} {u a w : Value} (hm : Mem B ro m) (hl : lookO m.ob k = some (.ls true cs)) (hu : E0R ro m (.e k pre off) u) (ha : plain a = true) (hc : cell cs pre off = some (.c w)) :
    ∃ s' A', Out C B ro m [k] [] (.mu (sto 1 u a)) undef (.o .w) ⟨s', setO m.ob k (.ls true (cput cs pre off [.c a])), m.nk, A'⟩ := by
  have hl2 := look2_own (ro := ro) hl
  obtain ⟨ds, h, b, F, h1, h2, h3, rfl, hw, hF⟩ := elem_ok hm hu hl2
  have hd := cellT h1 hc
  have hlt := (List.getElem?_eq_some_iff.1 hd).1
  have hown := hm.own k _ hl2 rfl
  obtain ⟨_, hwk⟩ : _ ∧ Win m.s true cs (m.A k).h (m.A k).b (m.A k).F := by
    rcases hm.obr k _ hl2 with ⟨hh, _⟩ | hh
    · rw [h2] at hh; cases hh
    · exact hh
  obtain ⟨ob, F1, g1, g2, g3, g4, rfl⟩ := hw
  obtain ⟨w', F', q1, q2, q3⟩ := TRs_get g4 hd
  simp only [TR] at q2
  obtain ⟨rfl, q4, _⟩ := q2
  rw [win_at _ _ _ _ hlt] at q1
  have hh := St.get_lt g1
  obtain ⟨hv1, hv2⟩ := plain_one ha
  have hgo : sto 1 (pt h (b + off)) a m.s = some (undef, m.s.put h (some ⟨splice ob.cells (b + off) [a], true⟩)) := by rw [← hv2]; exact sto_ok g1 (g2 rfl) hv1 (by rw [hv2]; rfl) (by omega)
  have hhF : h ∈ (m.A k).F := hF.subset (by simp)
  have hfr : ∀ x, x ≠ h → (m.s.put h (some ⟨splice ob.cells (b + off) [a], true⟩)).get x = m.s.get x := fun x hx => get_put_ne hx
  have hput : cput cs pre off [.c a] = nput cs pre (lput ds off [.c a]) := by unfold cput; rw [h1]
  have hll : (lput ds off [.c a]).length = ds.length := lput_length (by simp; omega)
  obtain ⟨F2, p1, p2, p3⟩ := Win.put (s' := m.s.put h (some ⟨splice ob.cells (b + off) [a], true⟩)) (ds' := lput ds off [.c a]) (Fn := []) hwk hown.1 h1 h3 hll (fun G hG hGw => by
    obtain ⟨ob2, G1, r1, r2, r3, r4, rfl⟩ := hGw
    rw [g1] at r1; cases r1
    have hGn := hG.nodup hown.1
    have hGn1 := List.nodup_cons.1 hGn
    have hsame : ∀ x ∈ G1, (m.s.put h (some ⟨splice ob.cells (b + off) [a], true⟩)).get x = m.s.get x := fun x hx => hfr x fun he => hGn1.1 (by rw [← he]; exact hx)
    refine ⟨h :: G1, ⟨_, G1, get_put_self hh, fun _ => rfl, by rw [hll, splice_length _ _ _ (by simp; omega)]; exact r3, ?_, rfl⟩, hGn, fun x hx => .inl hx, fun x _ hx => hfr x fun he => hx (by rw [he]; simp)⟩
    obtain ⟨Fa, Fb, Fc, rfl, t1, t2, t3⟩ := TRs_mid r4 off 1
    have hb0 : Fb = [] := by
      have e1 : (ds.drop off).take 1 = [.c w'] := by rw [List.take_one, List.head?_drop, hd]; rfl
      rw [e1] at t2
      obtain ⟨y, _, t2⟩ := TRs_one.1 t2
      simp only [TR] at t2; exact t2.2.2
    subst hb0
    have := TRs_put (Fb := []) (ts' := [.c a]) (us' := [a]) (Fb' := []) t1 t3 (TRs_one.2 ⟨a, rfl, by simp [TR, ha]⟩) (fun x hx => hsame x (by simp [hx])) (fun x hx => hsame x (by simp [hx]))
    rw [hll]
    have e2 : ((splice ob.cells (b + off) [a]).drop b).take ds.length = ((ob.cells.drop b).take ds.length).take off ++ ([a] ++ ((ob.cells.drop b).take ds.length).drop (off + 1)) := by
      have hlen : ((ob.cells.drop b).take ds.length).length = ds.length := by rw [List.length_take, List.length_drop]; omega
      rw [show off + 1 = off + [a].length from rfl, ← set_eq_parts ((ob.cells.drop b).take ds.length) off a (by omega)]
      apply List.ext_getElem?
      intro i
      by_cases hi : i < ds.length
      · rw [win_at _ _ _ _ hi, splice_get _ _ _ (by simp; omega)]
        by_cases he : i = off
        · subst he
          rw [if_pos (by simp), List.getElem?_set_self (by omega)]; simp
        · rw [if_neg (by simp; omega), List.getElem?_set_ne (Ne.symm he), win_at _ _ _ _ hi]
      · rw [List.getElem?_eq_none (by rw [List.length_take]; omega), List.getElem?_eq_none (by rw [List.length_set]; omega)]
    rw [e2]; exact this) (fun x hx => by simp at hx)
  have hA : (updA m.A k ⟨false, (m.A k).h, (m.A k).b, F2⟩) k = ⟨false, (m.A k).h, (m.A k).b, F2⟩ := updA_self
  have key := chg_out (C := C) (B := B) (kl := []) (aff := [k]) (o' := .ls true (cput cs pre off [.c a])) (a := ⟨false, (m.A k).h, (m.A k).b, F2⟩) (st := .mu (sto 1 (pt h (b + off)) a)) (v := undef) (e := .o .w) hm (Gone.nil hm.kok) hl rfl
    (s' := m.s.put h (some ⟨splice ob.cells (b + off) [a], true⟩)) (Nat.le_refl _) (fun x _ _ hx => hfr x fun he => hx (by rw [he]; exact hhF)) p2 (fun x hx => .inr (.inl ((p3 x hx).resolve_right (by simp)))) ?_ ?_ hgo ?_ trivial ?_
  · rw [killO_nil] at key
    exact ⟨_, _, key⟩
  · intro o2 ho2
    simp only [killO_nil, look2_set hl, if_true, Option.some.injEq] at ho2
    subst ho2
    exact ⟨true, cs, hl2, by rw [hput]; exact nput_length h1 hll, by simp only [updA_self, h2], by simp only [updA_self], by simp only [updA_self]⟩
  · intro _ own cs1 own' cs' hh1 hh2
    rw [hl2] at hh1; cases hh1
    simp only [killO_nil, look2_set hl, if_true, Option.some.injEq, Ob2.ls.injEq] at hh2
    obtain ⟨_, rfl⟩ := hh2
    refine ⟨fun pre2 ds2 hn2 => by rw [hput]; exact node_put_scal h1 hd hn2, fun _ pre2 ds2 hb hn2 hs2 => spot_put g1 (fun i x b1 n e hi => ?_) hs2⟩
    refine splice_ne (by omega) hi fun he => ?_
    subst he
    rw [q1] at hi; cases hi; cases q4
  · intro hkp
    simp only [killB]
    exact .inr ⟨by simp only [updA_self], by simp only [updA_self]; rw [hput]; exact p1⟩
  · intro k' o2 ho2 hne x hx
    refine hfr x fun he => ?_
    subst he
    have : k' ≠ k := fun he => by subst he; simp at hne
    exact hm.dis k k' _ o2 (Ne.symm this) hl2 ho2 rfl x hhF hx
end Go.Proofs.Ytmikdglafmfnfaa.Eng
