/- The pure engine's truth: what a call is given. -/
import Derived.Test.YtmikdglafmfnfaaEngPh
namespace Go.Proofs.Ytmikdglafmfnfaa.Eng
open Go Go.RowKit
set_option linter.unusedVariables false
set_option linter.unusedSimpArgs false
set_option linter.constructorNameAsVariable false
mutual
theorem TR_fun {s : St} {o o' : Bool} : ∀ (t : T) (u : Value) (F F' : List Nat), TR s o t u F → TR s o' t u F' → F = F'
  | .c v, u, F, F', h, h' => by simp only [TR] at h h'; rw [h.2.2, h'.2.2]
  | .l e cs, u, F, F', h, h' => by
    simp only [TR] at h h'
    rcases h with ⟨rfl, rfl, rfl⟩ | ⟨x, b, n, ob, F1, rfl, h2, h3, h4, h5, h6, rfl⟩
    · rcases h' with ⟨_, _, rfl⟩ | ⟨x, b, n, ob, F1, h1, _⟩
      · rfl
      · cases h1
    · rcases h' with ⟨h1, _⟩ | ⟨x', b', n', ob', F1', h1, k2, k3, k4, k5, k6, rfl⟩
      · cases h1
      · cases h1
        rw [h3] at k3; cases k3
        rw [TRs_fun cs _ _ _ h6 k6]
theorem TRs_fun {s : St} {o o' : Bool} : ∀ (ts : List T) (us : List Value) (F F' : List Nat), TRs s o ts us F → TRs s o' ts us F' → F = F'
  | [], us, F, F', h, h' => by simp only [TRs] at h h'; rw [h.2, h'.2]
  | t :: ts, us, F, F', h, h' => by
    simp only [TRs] at h h'
    obtain ⟨u, us', F1, F2, rfl, h2, h3, rfl⟩ := h
    obtain ⟨u', us'', F1', F2', he, k2, k3, rfl⟩ := h'
    cases he
    rw [TR_fun t u _ _ h2 k2, TRs_fun ts us' _ _ h3 k3]
end
theorem Win.fun_ {s : St} {o o' : Bool} {cs : List T} {h b : Nat} {F F' : List Nat} (h1 : Win s o cs h b F) (h2 : Win s o' cs h b F') : F = F' := by
  obtain ⟨ob, F1, a1, a2, a3, a4, rfl⟩ := h1
  obtain ⟨ob', F2, b1, b2, b3, b4, rfl⟩ := h2
  rw [a1] at b1; cases b1
  rw [TRs_fun _ _ _ _ a4 b4]
/-- The whole of what lies at a spot is changed. -/
theorem Win.put2 {s s' : St} {h' b' : Nat} {ds ds' : List T} {G Gn : List Nat} (hl : ds'.length = ds.length) (hG : Win s true ds h' b' G) (hnew : Win s' true ds' h' b' Gn) (hGn : Gn.Nodup) : ∀ {pre : List Nat} {cs : List T} {h b : Nat} {F : List Nat}, Win s true cs h b F → F.Nodup → Eng.node cs pre = some ds → spot s h b pre = some (h', b') →
    (∀ x ∈ Gn, x ∈ F → x ∈ G) → (∀ x ∈ F, x ∉ G → s'.get x = s.get x) → ∃ F2, Win s' true (nput cs pre ds') h b F2 ∧ F2.Nodup ∧ ∀ x ∈ F2, x ∈ Gn ∨ (x ∈ F ∧ x ∉ G)
  | [], cs, h, b, F, hw, hnd, hn, hs, hc, hfr => by
    simp only [Eng.node, Option.some.injEq] at hn; subst hn
    simp only [spot, Option.some.injEq, Prod.mk.injEq] at hs
    obtain ⟨rfl, rfl⟩ := hs
    exact ⟨Gn, hnew, hGn, fun x hx => .inl hx⟩
  | i :: r, cs, h, b, F, hw, hnd, hn, hs, hc, hfr => by
    simp only [Eng.node] at hn
    obtain ⟨ob, F1, h1, h2, h3, h4, rfl⟩ := hw
    split at hn
    · rename_i e es hi
      have hlt := (List.getElem?_eq_some_iff.1 hi).1
      obtain ⟨Fa, Fb, Fc, rfl, k1, k2, k3⟩ := TRs_mid h4 i 1
      have e1 : (cs.drop i).take 1 = [.l e es] := by rw [List.take_one, List.head?_drop, hi]; rfl
      rw [e1] at k2
      obtain ⟨u, hu, ht⟩ := TRs_one.1 k2
      have hu' : ob.cells[b + i]? = some u := by
        rw [← win_at _ _ _ _ hlt]
        rw [List.take_one, List.head?_drop] at hu
        cases hx : ((ob.cells.drop b).take cs.length)[i]? with
        | none => rw [hx] at hu; simp at hu
        | some y => rw [hx] at hu; simp at hu; rw [hu]
      simp only [spot, h1, hu'] at hs
      rcases TR_l.1 ht with ⟨rfl, _⟩ | ⟨x1, b1, n1, rfl, hlen, hw1⟩
      · simp [nl] at hs
      · simp only [sl] at hs
        have hnd1 := List.nodup_cons.1 hnd
        have nda := List.nodup_append.1 hnd1.2
        have ndb := List.nodup_append.1 nda.2.1
        have hGb : ∀ x ∈ G, x ∈ Fb := by
          rcases hw1.node hn with ⟨_, _, hh⟩ | ⟨h'', b'', F3, a1, a2, a3⟩
          · rw [hh] at hs; cases hs
          · rw [a1] at hs; cases hs
            rw [hG.fun_ a2]; exact fun x hx => a3.subset hx
        have hsub : ∀ x ∈ Fb, x ∈ h :: (Fa ++ (Fb ++ Fc)) := fun x hx => by simp [hx]
        obtain ⟨F2, g1, g2, g3⟩ := Win.put2 hl hG hnew hGn hw1 ndb.1 hn hs (fun x hx hb => hc x hx (hsub x hb)) (fun x hx hg => hfr x (hsub x hx) hg)
        have hout : ∀ x, x ∈ h :: (Fa ++ (Fb ++ Fc)) → x ∉ Fb → x ∉ F2 := fun x hx hnb h2 => by
          rcases g3 x h2 with hx2 | hx2
          · exact hnb (hGb x (hc x hx2 hx))
          · exact hnb hx2.1
        have hkeep : ∀ x ∈ h :: (Fa ++ (Fb ++ Fc)), x ∉ Fb → s'.get x = s.get x := fun x hx hnb => hfr x hx fun hg => hnb (hGb x hg)
        have hhb : h ∉ Fb := fun hb => hnd1.1 (by simp [hb])
        have hab : ∀ x ∈ Fa, x ∉ Fb := fun x hx hb => nda.2.2 x hx x (by simp [hb]) rfl
        have hcb : ∀ x ∈ Fc, x ∉ Fb := fun x hx hb => ndb.2.2 x hb x hx rfl
        have hh : s'.get h = some ob := by rw [hkeep h (by simp) hhb]; exact h1
        refine ⟨h :: (Fa ++ (F2 ++ Fc)), ⟨ob, _, hh, h2, ?_, ?_, rfl⟩, ?_, fun x hx => ?_⟩
        · simp only [nput, hi, List.length_set]; exact h3
        · simp only [nput, hi, List.length_set]
          rw [set_eq_parts _ _ _ hlt]
          have hval : (ob.cells.drop b).take cs.length = ((ob.cells.drop b).take cs.length).take i ++ ([sl x1 b1 n1 e] ++ ((ob.cells.drop b).take cs.length).drop (i + 1)) := by
            conv => lhs; rw [← List.take_append_drop i ((ob.cells.drop b).take cs.length)]
            congr 1
            rw [← List.drop_drop]
            conv => lhs; rw [← List.take_append_drop 1 (((ob.cells.drop b).take cs.length).drop i)]
            rw [hu]
          rw [hval]
          exact TRs_put (Fb := Fb) (ts' := [.l e (nput es r ds')]) k1 k3 (TRs_one.2 ⟨_, rfl, TR_l.2 (.inr ⟨x1, b1, n1, rfl, by rw [nput_length hn hl]; exact hlen, g1⟩)⟩) (fun x hx => hkeep x (by simp [hx]) (hab x hx)) (fun x hx => hkeep x (by simp [hx]) (hcb x hx))
        · refine List.nodup_cons.2 ⟨fun hx => ?_, List.nodup_append.2 ⟨nda.1, List.nodup_append.2 ⟨g2, ndb.2.1, fun x hx y hy he => ?_⟩, fun x hx y hy he => ?_⟩⟩
          · rcases List.mem_append.1 hx with hx | hx
            · exact hnd1.1 (by simp [hx])
            · rcases List.mem_append.1 hx with hx | hx
              · exact hout h (by simp) hhb hx
              · exact hnd1.1 (by simp [hx])
          · subst he; exact hout x (by simp [hy]) (hcb x hy) hx
          · subst he
            rcases List.mem_append.1 hy with hy | hy
            · exact hout x (by simp [hx]) (hab x hx) hy
            · exact nda.2.2 x hx x (by simp [hy]) rfl
        · rcases List.mem_cons.1 hx with rfl | hx
          · exact .inr ⟨by simp, fun hg => hhb (hGb _ hg)⟩
          · rcases List.mem_append.1 hx with hx | hx
            · exact .inr ⟨by simp [hx], fun hg => hab x hx (hGb _ hg)⟩
            · rcases List.mem_append.1 hx with hx | hx
              · rcases g3 x hx with hx | hx
                · exact .inl hx
                · exact .inr ⟨hsub x hx.1, hx.2⟩
              · exact .inr ⟨by simp [hx], fun hg => hcb x hx (hGb _ hg)⟩
    · cases hn
theorem CellsR_len {s : St} : ∀ {k : List CS} {us vs : List Value} {cs : List (List T)} {sv : List Value} {M D : List Nat}, CellsR s k us vs cs sv M D → us.length = k.length
  | [], us, vs, cs, sv, M, D, h => by simp only [CellsR] at h; rw [h.1]; rfl
  | .v :: r, us, vs, cs, sv, M, D, h => by
    simp only [CellsR] at h
    obtain ⟨u, us', vs', rfl, _, _, h⟩ := h
    simp [CellsR_len h]
  | .t e m :: r, us, vs, cs, sv, M, D, h => by
    simp only [CellsR] at h
    obtain ⟨u, us', c, cs', sv', F, M', D', rfl, _, _, _, _, h⟩ := h
    simp [CellsR_len h]
/-- The rows of an own slice: whole, or a part. -/
theorem own_TR' {B : Bas} {ro : List (List T)} {m : Mst} (hm : Mem B ro m) {x : E0} {e n : Nat} {c : List T} {u : Value} (hr : E0R ro m x u) (hc : contE ro m.ob x e = some c) (ho : isOwnS m.ob x = true) : ∃ F, TR m.s true (.l e c) u F ∧ F.Nodup ∧ (∀ y ∈ F, ∃ k ∈ rootE x, y ∈ (m.A k).F) ∧ ∀ k ∈ rootE x, ∃ o, lookO m.ob k = some o ∧ isOwn o = true := by
  cases x with
  | z =>
    simp only [contE, Option.some.injEq] at hc; subst hc
    exact ⟨[], TR_l.2 (.inl ⟨hr, rfl, rfl⟩), List.nodup_nil, fun y hy => by simp at hy, fun k hk => by simp [rootE] at hk⟩
  | t k e' =>
    simp only [isOwnS] at ho
    split at ho
    · rename_i cs hl
      have hl2 := look2_own (ro := ro) hl
      simp only [contE, hl2] at hc
      split at hc
      · rename_i hb
        have := Nat.eq_of_beq_eq_true hb; subst this
        simp only [Option.some.injEq] at hc; subst hc
        exact ⟨_, own_TR hm hl2 hr, (hm.own k _ hl2 rfl).1, fun y hy => ⟨k, by simp [rootE], hy⟩, fun j hj => by simp only [rootE, List.mem_singleton] at hj; subst hj; exact ⟨_, hl, rfl⟩⟩
      · cases hc
    · cases ho
  | n k pre e' =>
    simp only [isOwnS] at ho
    split at ho
    · rename_i cs hl
      have hl2 := look2_own (ro := ro) hl
      simp only [contE, hl2] at hc
      split at hc
      · rename_i hb
        have := Nat.eq_of_beq_eq_true hb; subst this
        simp only [Option.some.injEq] at hc; subst hc
        obtain ⟨_, _, hpos, hr⟩ := hr
        obtain ⟨ds, h1, hr⟩ := hr _ _ hl2
        have hsub : subN cs pre = ds := by unfold subN; rw [h1]
        have hroot : ∀ j ∈ rootE (.n k pre e), ∃ o, lookO m.ob j = some o ∧ isOwn o = true := fun j hj => by simp only [rootE, List.mem_singleton] at hj; subst hj; exact ⟨_, hl, rfl⟩
        rw [hsub]
        rcases hr with ⟨rfl, rfl⟩ | ⟨n', h, b, h3, h4, h5, rfl⟩
        · exact ⟨[], TR_l.2 (.inl ⟨rfl, rfl, rfl⟩), List.nodup_nil, fun y hy => by simp at hy, hroot⟩
        · obtain ⟨F, hw, hF⟩ := hm.node hl2 h3 h1 h4
          exact ⟨F, TR_l.2 (.inr ⟨h, b, n', rfl, h5, hw⟩), hF.nodup (hm.own k _ hl2 rfl).1, fun y hy => ⟨k, by simp [rootE], hF.subset hy⟩, hroot⟩
      · cases hc
    · cases ho
  | _ => simp [isOwnS] at ho
theorem isOwnT_S {ob : Obs} {x : E0} (h : isOwnT ob x = true) : isOwnS ob x = true := by
  cases x <;> first | exact h | (simp [isOwnT] at h)
theorem cont_len {ro : List (List T)} {ob : Obs} {x : E0} {e : Nat} {c : List T} (h : contE ro ob x e = some c) : ∃ n, lenE ro ob x = some n := by
  cases x with
  | z => exact ⟨0, rfl⟩
  | t k e' =>
    simp only [contE] at h; split at h
    · split at h
      · rename_i hl; simp only [lenE, hl]; exact ⟨_, rfl⟩
      · cases h
    · cases h
  | s k pre off n e' =>
    simp only [contE] at h; split at h
    · split at h
      · rename_i hl; simp only [lenE, hl]; exact ⟨_, rfl⟩
      · cases h
    · cases h
  | n k pre e' =>
    simp only [contE] at h; split at h
    · split at h
      · rename_i hl; simp only [lenE, hl]; exact ⟨_, rfl⟩
      · cases h
    · cases h
  | _ => simp [contE] at h
/-- A slice that is read. -/
theorem read_TR {B : Bas} {ro : List (List T)} {m : Mst} (hm : Mem B ro m) {x : E0} {e : Nat} {c : List T} {u : Value} (hr : E0R ro m x u) (hc : contE ro m.ob x e = some c) : ∃ F, TR m.s false (.l e c) u F ∧ (∀ y ∈ F, ∃ k ∈ rootE x, y ∈ (m.A k).F) ∧ ∀ k ∈ rootE x, ∃ o, look2 ro m.ob k = some o := by
  obtain ⟨n, hn⟩ := cont_len hc
  have hco := cont_ok hm hr hc hn
  have hroot : ∀ k ∈ rootE x, ∃ o, look2 ro m.ob k = some o := by
    intro k hk
    cases x <;> simp only [rootE, List.mem_singleton, List.not_mem_nil] at hk <;> (try subst hk) <;> simp only [contE] at hc <;> (try cases hc) <;> (split at hc <;> try cases hc) <;> (split at hc <;> try cases hc) <;> exact ⟨_, by assumption⟩
  have hrt : ∀ k, rootO x = some k → k ∈ rootE x := fun k hk => by cases x <;> simp only [rootO, reduceCtorEq, Option.some.injEq] at hk <;> subst hk <;> simp [rootE]
  rcases hco.at_ with ⟨rfl, _, rfl⟩ | ⟨h, b, F, own, rfl, hw, k, hk, hs⟩
  · exact ⟨[], TR_l.2 (.inl ⟨rfl, rfl, rfl⟩), fun y hy => by simp at hy, hroot⟩
  · exact ⟨F, TR_l.2 (.inr ⟨h, b, n, rfl, hco.len, hw.ro⟩), fun y hy => ⟨k, hrt k hk, hs.subset hy⟩, hroot⟩
theorem nodupN_ok : ∀ {l : List Nat}, nodupN l = true → l.Nodup
  | [], _ => List.nodup_nil
  | a :: r, h => by
    simp only [nodupN, Bool.and_eq_true, Bool.not_eq_true'] at h
    refine List.nodup_cons.2 ⟨fun ha => ?_, nodupN_ok h.2⟩
    have := List.any_eq_false.1 h.1 a ha
    simp at this
theorem apartN_ok {a b : List Nat} (h : apartN a b = true) : ∀ x ∈ a, x ∉ b := by
  intro x hx hb
  unfold apartN at h
  have := List.all_eq_true.1 h x hx
  simp only [Bool.not_eq_true'] at this
  have := List.any_eq_false.1 this x hb
  simp at this
def dlOf : List CS → List E0 → List Nat
  | .v :: r, sl => dlOf r sl
  | .t e 2 :: r, .t k _ :: sl => k :: dlOf r sl
  | .t e _ :: r, x :: sl => dlOf r sl
  | _, _ => []
def mlOf : List CS → List E0 → List Nat
  | .v :: r, sl => mlOf r sl
  | .t e 1 :: r, x :: sl => rootE x ++ mlOf r sl
  | .t e _ :: r, x :: sl => mlOf r sl
  | _, _ => []
def nsl : List CS → Nat
  | [] => 0
  | .v :: r => nsl r
  | .t _ _ :: r => nsl r + 1
/-- Of an object that is written M has no more rows than its slice takes. -/
def One (m : Mst) (M : List Nat) : List CS → List E0 → List Value → List (List T) → Prop
  | .v :: r, sl, sv, cs => One m M r sl sv cs
  | .t _ 0 :: r, _ :: sl, _ :: sv, _ :: cs => One m M r sl sv cs
  | .t e _ :: r, x :: sl, u :: sv, c :: cs => (∀ k ∈ rootE x, ∀ F, TR m.s true (.l e c) u F → ∀ y ∈ M, y ∈ (m.A k).F → y ∈ F) ∧ One m M r sl sv cs
  | _, _, _, _ => True
def muOf : List CS → List E0 → List Nat
  | .v :: r, sl => muOf r sl
  | .t _ 0 :: r, _ :: sl => muOf r sl
  | .t _ _ :: r, x :: sl => rootE x ++ muOf r sl
  | _, _ => []
theorem One.mono {m : Mst} {M M' : List Nat} : ∀ {css : List CS} {sl : List E0} {sv : List Value} {cs : List (List T)}, One m M css sl sv cs → (∀ y ∈ M', y ∈ M ∨ ∀ k ∈ muOf css sl, y ∉ (m.A k).F) → One m M' css sl sv cs
  | [], sl, sv, cs, _, _ => by simp only [One]
  | .v :: r, sl, sv, cs, h, hy => by simp only [One, muOf] at *; exact One.mono h hy
  | .t e md :: r, [], sv, cs, h, hy => by cases md <;> simp only [One]
  | .t e md :: r, x :: sl, [], cs, h, hy => by cases md <;> simp only [One]
  | .t e md :: r, x :: sl, u :: sv, [], h, hy => by cases md <;> simp only [One]
  | .t e 0 :: r, x :: sl, u :: sv, c :: cs, h, hy => by simp only [One, muOf] at *; exact One.mono h hy
  | .t e (md + 1) :: r, x :: sl, u :: sv, c :: cs, h, hy => by
    simp only [One, muOf] at *
    refine ⟨fun k hk F hF y hyM hyk => ?_, One.mono h.2 fun y hyM => (hy y hyM).imp id fun hh k hk => hh k (by simp [hk])⟩
    rcases hy y hyM with h1 | h1
    · exact h.1 k hk F hF y h1 hyk
    · exact absurd hyk (h1 k (by simp [hk]))
theorem One.app {m : Mst} {M : List Nat} {c2 : List CS} {s2 : List E0} {v2 : List Value} {k2 : List (List T)} (h2 : One m M c2 s2 v2 k2) : ∀ {c1 : List CS} {s1 : List E0} {v1 : List Value} {k1 : List (List T)}, One m M c1 s1 v1 k1 → s1.length = nsl c1 → v1.length = nsl c1 → k1.length = nsl c1 → One m M (c1 ++ c2) (s1 ++ s2) (v1 ++ v2) (k1 ++ k2)
  | [], s1, v1, k1, _, a, b, c => by
    rw [List.eq_nil_of_length_eq_zero a, List.eq_nil_of_length_eq_zero b, List.eq_nil_of_length_eq_zero c]; exact h2
  | .v :: r, s1, v1, k1, h, a, b, c => by simp only [List.cons_append, One] at *; exact One.app h2 h a b c
  | .t e md :: r, [], v1, k1, h, a, b, c => by simp [nsl] at a
  | .t e md :: r, x :: s1, [], k1, h, a, b, c => by simp [nsl] at b
  | .t e md :: r, x :: s1, u :: v1, [], h, a, b, c => by simp [nsl] at c
  | .t e 0 :: r, x :: s1, u :: v1, d :: k1, h, a, b, c => by simp only [List.cons_append, One] at *; exact One.app h2 h (by simpa [nsl] using a) (by simpa [nsl] using b) (by simpa [nsl] using c)
  | .t e (md + 1) :: r, x :: s1, u :: v1, d :: k1, h, a, b, c => by simp only [List.cons_append, One] at *; exact ⟨h.1, One.app h2 h.2 (by simpa [nsl] using a) (by simpa [nsl] using b) (by simpa [nsl] using c)⟩
theorem CellsR_ns {s : St} : ∀ {k : List CS} {us vs : List Value} {cs : List (List T)} {sv : List Value} {M D : List Nat}, CellsR s k us vs cs sv M D → cs.length = nsl k ∧ sv.length = nsl k
  | [], us, vs, cs, sv, M, D, h => by simp only [CellsR] at h; rw [h.2.2.1, h.2.2.2.1]; exact ⟨rfl, rfl⟩
  | .v :: r, us, vs, cs, sv, M, D, h => by
    simp only [CellsR] at h
    obtain ⟨u, us', vs', rfl, _, _, h⟩ := h
    have := CellsR_ns h
    simpa [nsl] using this
  | .t e m :: r, us, vs, cs, sv, M, D, h => by
    simp only [CellsR] at h
    obtain ⟨u, us', c, cs', sv', F, M', D', rfl, rfl, rfl, _, _, h⟩ := h
    obtain ⟨h1, h2⟩ := CellsR_ns h
    exact ⟨by simp [nsl, h1], by simp [nsl, h2]⟩
/-- The slices that are written are of one's own. -/
def AF (ro : List (List T)) (ob : Obs) : List CS → List E0 → List (List T) → Prop
  | .v :: r, sl, cs => AF ro ob r sl cs
  | .t e 1 :: r, x :: sl, c :: cs => contE ro ob x e = some c ∧ isOwnS ob x = true ∧ AF ro ob r sl cs
  | .t _ _ :: r, _ :: sl, _ :: cs => AF ro ob r sl cs
  | _, _, _ => True
theorem AF.app {ro : List (List T)} {ob : Obs} {c2 : List CS} {s2 : List E0} {k2 : List (List T)} (h2 : AF ro ob c2 s2 k2) : ∀ {c1 : List CS} {s1 : List E0} {k1 : List (List T)}, AF ro ob c1 s1 k1 → s1.length = nsl c1 → k1.length = nsl c1 → AF ro ob (c1 ++ c2) (s1 ++ s2) (k1 ++ k2)
  | [], s1, k1, _, a, c => by
    rw [List.eq_nil_of_length_eq_zero a, List.eq_nil_of_length_eq_zero c]; exact h2
  | .v :: r, s1, k1, h, a, c => by simp only [List.cons_append, AF] at *; exact AF.app h2 h a c
  | .t e md :: r, [], k1, h, a, c => by simp [nsl] at a
  | .t e md :: r, x :: s1, [], h, a, c => by simp [nsl] at c
  | .t e 0 :: r, x :: s1, d :: k1, h, a, c => by simp only [List.cons_append, AF] at *; exact AF.app h2 h (by simpa [nsl] using a) (by simpa [nsl] using c)
  | .t e 1 :: r, x :: s1, d :: k1, h, a, c => by simp only [List.cons_append, AF] at *; exact ⟨h.1, h.2.1, AF.app h2 h.2.2 (by simpa [nsl] using a) (by simpa [nsl] using c)⟩
  | .t e (n + 2) :: r, x :: s1, d :: k1, h, a, c => by simp only [List.cons_append, AF] at *; exact AF.app h2 h (by simpa [nsl] using a) (by simpa [nsl] using c)
/-- What the cells of one argument come to. -/
structure ArOk (ro : List (List T)) (m : Mst) (css : List CS) (us : List Value) (p : Ar) (sv : List Value) (M D : List Nat) : Prop where
  cells : CellsR m.s css us p.vs p.cs sv M D
  sl : AllE (E0R ro m) p.sl sv
  mM : ∀ x ∈ M, ∃ k ∈ p.mu, x ∈ (m.A k).F
  dD : ∀ x ∈ D, ∃ k ∈ p.rd, x ∈ (m.A k).F
  nd : p.mu.Nodup → M.Nodup
  mu : ∀ k ∈ p.mu, ∃ o, lookO m.ob k = some o ∧ isOwn o = true
  rd : ∀ k ∈ p.rd, ∃ o, look2 ro m.ob k = some o
  perm : p.mu.Perm (dlOf css p.sl ++ mlOf css p.sl)
  len : p.sl.length = nsl css
  muE : p.mu = muOf css p.sl
  one : p.mu.Nodup → One m M css p.sl sv p.cs
  af : AF ro m.ob css p.sl p.cs
theorem rows_apart {B : Bas} {ro : List (List T)} {m : Mst} (hm : Mem B ro m) {a b : List Nat} (ha : ∀ k ∈ a, ∃ o, lookO m.ob k = some o ∧ isOwn o = true) (hb : ∀ k ∈ b, ∃ o, look2 ro m.ob k = some o) (hab : ∀ k ∈ a, k ∉ b) {x : Nat} (h1 : ∃ k ∈ a, x ∈ (m.A k).F) (h2 : ∃ k ∈ b, x ∈ (m.A k).F) : False := by
  obtain ⟨k, hk, hx⟩ := h1
  obtain ⟨j, hj, hy⟩ := h2
  obtain ⟨o, ho, how⟩ := ha k hk
  obtain ⟨o2, ho2⟩ := hb j hj
  exact hm.dis k j o o2 (fun he => hab k hk (he ▸ hj)) (look2_own ho) ho2 how x hx hy
theorem argC_ok {B : Bas} {ro : List (List T)} {m : Mst} (hm : Mem B ro m) : ∀ (css : List CS) (xs : List E0) (us : List Value) (p : Ar), okC css = true → argC ro m.ob css xs = some p → AllE (E0R ro m) xs us → ∃ sv M D, ArOk ro m css us p sv M D
  | [], [], [], p, _, h, _ => by
    simp only [argC, Option.some.injEq] at h; subst h
    exact ⟨[], [], [], by simp only [CellsR]; simp, trivial, fun x hx => by simp at hx, fun x hx => by simp at hx, fun _ => List.nodup_nil, fun x hx => by simp at hx, fun x hx => by simp at hx, by simp [dlOf, mlOf], rfl, rfl, fun _ => by simp only [One], by simp only [AF]⟩
  | [], x :: xs, us, p, _, h, _ => by simp [argC] at h
  | [], [], u :: us, p, _, h, ha => ha.elim
  | .v :: r, [], us, p, _, h, _ => by simp [argC] at h
  | .t e md :: r, [], us, p, _, h, _ => by simp [argC] at h
  | c :: r, x :: xs, [], p, _, h, ha => ha.elim
  | .v :: r, x :: xs, u :: us, p, hok, h, ha => by
    cases x <;> simp only [argC, reduceCtorEq] at h
    simp only [Option.map_eq_some_iff] at h
    obtain ⟨q, h1, rfl⟩ := h
    obtain ⟨sv, M, D, hq⟩ := argC_ok hm r xs us q hok h1 ha.2
    have hx := ha.1
    exact ⟨sv, M, D, by simp only [CellsR]; exact ⟨u, us, q.vs, rfl, by rw [hx.1], by rw [hx.1]; exact hx.2, hq.cells⟩, hq.sl, hq.mM, hq.dD, hq.nd, hq.mu, hq.rd, hq.perm, by simp [nsl, hq.len], hq.muE, fun hnd => by simp only [One]; exact hq.one hnd, by simp only [AF]; exact hq.af⟩
  | .t e md :: r, x :: xs, u :: us, p, hok, h, ha => by
    simp only [argC, Option.bind_eq_some_iff] at h
    obtain ⟨c, hc, q, h1, h⟩ := h
    simp only [okC, Bool.and_eq_true] at hok
    obtain ⟨sv, M, D, hq⟩ := argC_ok hm r xs us q hok.2 h1 ha.2
    have hx := ha.1
    match md, hok, h with
    | 0, hok, h =>
      simp only [Option.some.injEq] at h; subst h
      obtain ⟨F, f1, f2, f3⟩ := read_TR hm hx hc
      refine ⟨u :: sv, M, F ++ D, by simp only [CellsR]; exact ⟨u, us, c, q.cs, sv, F, M, D, rfl, rfl, rfl, f1, ⟨rfl, rfl⟩, hq.cells⟩, ⟨hx, hq.sl⟩, hq.mM, fun y hy => ?_, hq.nd, hq.mu, fun k hk => ?_, by simpa [dlOf, mlOf] using hq.perm, by simp [nsl, hq.len], hq.muE, fun hnd => by simp only [One]; exact hq.one hnd, by simp only [AF]; exact hq.af⟩
      · rcases List.mem_append.1 hy with hy | hy
        · obtain ⟨k, hk, hky⟩ := f2 y hy; exact ⟨k, by simp [hk], hky⟩
        · obtain ⟨k, hk, hky⟩ := hq.dD y hy; exact ⟨k, by simp [hk], hky⟩
      · rcases List.mem_append.1 hk with hk | hk
        · exact f3 k hk
        · exact hq.rd k hk
    | 1, hok, h =>
      simp only at h
      split at h
      · rename_i ho
        simp only [Option.some.injEq] at h; subst h
        obtain ⟨F, f1, f2, f3, f4⟩ := own_TR' (n := 0) hm hx hc ho
        refine ⟨u :: sv, F ++ M, D, by simp only [CellsR]; exact ⟨u, us, c, q.cs, sv, F, M, D, rfl, rfl, rfl, f1, ⟨rfl, rfl⟩, hq.cells⟩, ⟨hx, hq.sl⟩, fun y hy => ?_, hq.dD, fun hnd => ?_, fun k hk => ?_, hq.rd, ?_, by simp [nsl, hq.len], by simp [muOf, hq.muE], fun hnd => ?_, by simp only [AF]; exact ⟨hc, ho, hq.af⟩⟩
        · rcases List.mem_append.1 hy with hy | hy
          · obtain ⟨k, hk, hky⟩ := f3 y hy; exact ⟨k, by simp [hk], hky⟩
          · obtain ⟨k, hk, hky⟩ := hq.mM y hy; exact ⟨k, by simp [hk], hky⟩
        · have nd := List.nodup_append.1 hnd
          refine List.nodup_append.2 ⟨f2, hq.nd nd.2.1, fun y hy z hz he => ?_⟩
          subst he
          exact rows_apart hm f4 (fun k hk => by obtain ⟨o, ho, _⟩ := hq.mu k hk; exact ⟨o, look2_own ho⟩) (fun k hk hk2 => nd.2.2 k hk k hk2 rfl) (f3 y hy) (hq.mM y hz)
        · rcases List.mem_append.1 hk with hk | hk
          · exact f4 k hk
          · exact hq.mu k hk
        · simp only [dlOf, mlOf]
          refine (hq.perm.append_left (rootE x)).trans ?_
          rw [← List.append_assoc, ← List.append_assoc]
          exact List.perm_append_comm.append_right _
        · have nd := List.nodup_append.1 hnd
          have hap : ∀ {y : Nat}, (∃ k ∈ rootE x, y ∈ (m.A k).F) → (∃ k ∈ q.mu, y ∈ (m.A k).F) → False := fun a b => rows_apart hm f4 (fun k hk => by obtain ⟨o, ho, _⟩ := hq.mu k hk; exact ⟨o, look2_own ho⟩) (fun k hk hk2 => nd.2.2 k hk k hk2 rfl) a b
          simp only [One]
          refine ⟨fun k hk F0 hF0 y hy hyk => ?_, (hq.one nd.2.1).mono fun y hy => ?_⟩
          · rw [TR_fun _ _ _ _ hF0 f1]
            rcases List.mem_append.1 hy with hy | hy
            · exact hy
            · exact (hap ⟨k, hk, hyk⟩ (hq.mM y hy)).elim
          · rcases List.mem_append.1 hy with hy | hy
            · right
              rw [← hq.muE]
              exact fun k hk hyk => hap (f3 y hy) ⟨k, hk, hyk⟩
            · exact .inl hy
      · cases h
    | 2, hok, h =>
      simp only at h
      split at h
      · rename_i ho
        simp only [Option.some.injEq] at h; subst h
        obtain ⟨F, f1, f2, f3, f4⟩ := own_TR' (n := 0) hm hx hc (isOwnT_S ho)
        refine ⟨u :: sv, F ++ M, D, by simp only [CellsR]; exact ⟨u, us, c, q.cs, sv, F, M, D, rfl, rfl, rfl, f1, ⟨rfl, rfl⟩, hq.cells⟩, ⟨hx, hq.sl⟩, fun y hy => ?_, hq.dD, fun hnd => ?_, fun k hk => ?_, hq.rd, ?_, by simp [nsl, hq.len], by simp [muOf, hq.muE], fun hnd => ?_, by simp only [AF]; exact hq.af⟩
        · rcases List.mem_append.1 hy with hy | hy
          · obtain ⟨k, hk, hky⟩ := f3 y hy; exact ⟨k, by simp [hk], hky⟩
          · obtain ⟨k, hk, hky⟩ := hq.mM y hy; exact ⟨k, by simp [hk], hky⟩
        · have nd := List.nodup_append.1 hnd
          refine List.nodup_append.2 ⟨f2, hq.nd nd.2.1, fun y hy z hz he => ?_⟩
          subst he
          exact rows_apart hm f4 (fun k hk => by obtain ⟨o, ho, _⟩ := hq.mu k hk; exact ⟨o, look2_own ho⟩) (fun k hk hk2 => nd.2.2 k hk k hk2 rfl) (f3 y hy) (hq.mM y hz)
        · rcases List.mem_append.1 hk with hk | hk
          · exact f4 k hk
          · exact hq.mu k hk
        · cases x <;> simp only [isOwnT] at ho <;> (try cases ho) <;> simp only [dlOf, mlOf, rootE, List.nil_append, List.cons_append]
          · exact hq.perm
          · exact hq.perm.cons _
        · have nd := List.nodup_append.1 hnd
          have hap : ∀ {y : Nat}, (∃ k ∈ rootE x, y ∈ (m.A k).F) → (∃ k ∈ q.mu, y ∈ (m.A k).F) → False := fun a b => rows_apart hm f4 (fun k hk => by obtain ⟨o, ho, _⟩ := hq.mu k hk; exact ⟨o, look2_own ho⟩) (fun k hk hk2 => nd.2.2 k hk k hk2 rfl) a b
          simp only [One]
          refine ⟨fun k hk F0 hF0 y hy hyk => ?_, (hq.one nd.2.1).mono fun y hy => ?_⟩
          · rw [TR_fun _ _ _ _ hF0 f1]
            rcases List.mem_append.1 hy with hy | hy
            · exact hy
            · exact (hap ⟨k, hk, hyk⟩ (hq.mM y hy)).elim
          · rcases List.mem_append.1 hy with hy | hy
            · right
              rw [← hq.muE]
              exact fun k hk hyk => hap (f3 y hy) ⟨k, hk, hyk⟩
            · exact .inl hy
      · cases h
    | n + 3, hok, h =>
      have := Nat.le_of_ble_eq_true hok.1.2
      omega
end Go.Proofs.Ytmikdglafmfnfaa.Eng
