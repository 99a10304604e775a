/- The pure engine's truth: slices laid down, appended to. -/
import Derived.Test.YtmikdglafmfnfaaEngPg
namespace Go.Proofs.Ytmikdglafmfnfaa.Eng
open Go Go.RowKit
set_option linter.unusedVariables false
set_option linter.unusedSimpArgs false
set_option linter.constructorNameAsVariable false
theorem fill_ok {B : Bas} {ro : List (List T)} {m : Mst} {env : Env2} {env1 : Env} {av : List (Nat × Bool)} (hm : Mem B ro m) (hE : EnvR ro m env env1) (ha : AvOk env1 av) {ks : List CK} {sz : Nat} (hks : ks.length = sz) : ∀ (parts : List (Nat × Operand)) (ps : List (Nat × List E0)) (ts : List T) (ob : Obs) (ts' : List T) (ob' : Obs) (cs : List Value) (Fn dl : List Nat),
    partsY av env sz parts = some ps → Gone ro m.ob ob m.nk dl → Mov m dl Fn → TRs m.s true ts cs Fn → fillT ks ps ts ob = some (ts', ob') →
    ∃ cs' dl' Fn', fillE cs (partsL env1 sz parts) = some cs' ∧ Gone ro m.ob ob' m.nk dl' ∧ Mov m dl' Fn' ∧ TRs m.s true ts' cs' Fn' ∧ ts'.length = ts.length
  | [], ps, ts, ob, ts', ob', cs, Fn, dl, hp, hg, hmov, htr, hf => by
    simp only [partsY, Option.some.injEq] at hp; subst hp
    simp only [fillT, Option.some.injEq, Prod.mk.injEq] at hf
    obtain ⟨rfl, rfl⟩ := hf
    exact ⟨cs, dl, Fn, rfl, hg, hmov, htr, rfl⟩
  | (i, x) :: r, ps, ts, ob, ts', ob', cs, Fn, dl, hp, hg, hmov, htr, hf => by
    simp only [partsY, Option.bind_eq_some_iff, Option.map_eq_some_iff] at hp
    obtain ⟨xs, h1, l, h2, rfl⟩ := hp
    simp only [fillT] at hf
    split at hf
    · rename_i hb
      have hle := Nat.le_of_ble_eq_true hb
      simp only [Option.bind_eq_some_iff] at hf
      obtain ⟨⟨zs, ob1⟩, h3, hf⟩ := hf
      obtain ⟨hv, hx⟩ := cells_ok h1 (ev_ok hE ha x)
      obtain ⟨dl1, Fb, g1, g2, g3, g4, g5⟩ := toT_ok hm ks xs _ ob ob1 zs dl hg h3 hx
      have hcl := TRs_len g2
      have hcs := TRs_len htr
      obtain ⟨Fa, Fo, Fc, rfl, t1, t2, t3⟩ := TRs_mid htr (i * sz) zs.length
      have nd1 := List.nodup_append.1 hmov.nd
      have nd2 := List.nodup_append.1 nd1.2.1
      have hdis : ∀ y ∈ Fb, ∀ z, z ∈ Fa ∨ z ∈ Fc → y ≠ z := by
        intro y hy z hz he
        subst he
        obtain ⟨j, hj, hjy⟩ := g3.fr y hy
        obtain ⟨k, hk, hky⟩ := hmov.fr y (by rcases hz with hz | hz <;> simp [hz])
        obtain ⟨o1, ho1, how1⟩ := g1.own j (by simp [hj])
        obtain ⟨o2, ho2, _⟩ := g1.own k (by simp [hk])
        exact hm.dis j k o1 o2 (fun he => g4 j hj (he ▸ hk)) ho1 ho2 how1 y hjy hky
      have hnew : Mov m (dl1 ++ dl) (Fa ++ (Fb ++ Fc)) := by
        refine ⟨List.nodup_append.2 ⟨nd1.1, List.nodup_append.2 ⟨g3.nd, nd2.2.1, fun y hy z hz => hdis y hy z (.inr hz)⟩, fun y hy z hz he => ?_⟩, fun y hy => ?_⟩
        · rcases List.mem_append.1 hz with hz | hz
          · exact hdis z hz y (.inl hy) he.symm
          · exact nd1.2.2 y hy z (by simp [hz]) he
        · rcases List.mem_append.1 hy with hy | hy
          · obtain ⟨k, hk, hky⟩ := hmov.fr y (by simp [hy]); exact ⟨k, by simp [hk], hky⟩
          · rcases List.mem_append.1 hy with hy | hy
            · obtain ⟨k, hk, hky⟩ := g3.fr y hy; exact ⟨k, by simp [hk], hky⟩
            · obtain ⟨k, hk, hky⟩ := hmov.fr y (by simp [hy]); exact ⟨k, by simp [hk], hky⟩
      have htr' : TRs m.s true (lput ts (i * sz) zs) (splice cs (i * sz) (cellsOf (ev env1 x))) (Fa ++ (Fb ++ Fc)) := by
        have := TRs_put (Fb := Fo) t1 t3 g2 (fun _ _ => rfl) (fun _ _ => rfl)
        unfold lput splice
        rw [List.append_assoc, hcl]
        exact this
      obtain ⟨cs', dl', Fn', k1, k2, k3, k4, k5⟩ := fill_ok hm hE ha hks r l _ ob1 ts' ob' _ _ _ h2 g1 hnew htr' hf
      refine ⟨cs', dl', Fn', ?_, k2, k3, k4, by rw [k5, lput_length (by omega)]⟩
      have hz : (cellsOf (ev env1 x)).length = sz := by omega
      simp only [partsL, fillE, hv, hz, beq_self_eq_true, Bool.and_self, Bool.true_and, decide_eq_true (show i * sz + sz ≤ cs.length by omega), if_true]
      exact k1
    · cases hf
theorem nil_out {C : Ctx} {B : Bas} {ro : List (List T)} {m : Mst} {ob1 : Obs} {dl aff : List Nat} {st : Stp} {e : Nat} (hm : Mem B ro m) (hg : Gone ro m.ob ob1 m.nk dl) (he : 0 < e) (hgo : stpGoes C st m.s nl m.s) :
    Out C B ro m aff [] st nl (.o (.t m.nk e)) ⟨m.s, (m.nk, .ls true []) :: ob1, m.nk + 1, updA m.A m.nk ⟨true, 0, 0, []⟩⟩ := by
  refine new_out hm hg (Nat.le_refl _) (fun h hh _ => rfl) List.nodup_nil (fun h hh => by simp at hh) hgo (fun hkp => ?_) ?_ (fun _ _ _ _ _ _ => rfl)
  · exact .inl ⟨by simp only [updA_self], rfl, by simp only [updA_self]⟩
  · exact ⟨Nat.lt_succ_self _, rfl, he, fun own cs hlk => .inl ⟨rfl, by simp only [updA_self]⟩⟩
theorem flat_TRs {s : St} {o : Bool} : ∀ {c : List T} {us : List Value} {F : List Nat}, flat c = true → TRs s o c us F → TRs s true c us []
  | [], us, F, _, h => by simp only [TRs] at h ⊢; exact ⟨h.1, trivial⟩
  | .c v :: c, us, F, hf, h => by
    simp only [TRs] at h ⊢
    obtain ⟨u, us', F1, F2, rfl, h1, h2, rfl⟩ := h
    simp only [TR] at h1
    exact ⟨u, us', [], [], rfl, by simp [TR, h1.1, h1.2.1], flat_TRs (by simp only [flat, List.all_cons, isC, Bool.true_and] at hf; exact hf) h2, rfl⟩
  | .l e cs :: c, us, F, hf, h => by simp [flat, isC] at hf
theorem contE_gone {ro : List (List T)} {ob ob1 : Obs} {nk : Nat} {dl : List Nat} (hg : Gone ro ob ob1 nk dl) {x : E0} {e : Nat} {c : List T} (h : contE ro ob1 x e = some c) : contE ro ob x e = some c ∧ ∀ k, rootO x = some k → k ∉ dl := by
  have key : ∀ k o, look2 ro ob1 k = some o → look2 ro ob k = some o ∧ k ∉ dl := fun k o hk => by
    rw [hg.look] at hk
    split at hk
    · cases hk
    · exact ⟨hk, by assumption⟩
  cases x with
  | z => exact ⟨h, fun k hk => by simp [rootO] at hk⟩
  | t k e' =>
    simp only [contE] at h ⊢
    split at h
    · rename_i hb; split at h
      · rename_i own cs hl
        obtain ⟨h1, h2⟩ := key k _ hl
        simp only [hb, h1]
        exact ⟨h, fun k' hk => by simp only [rootO, Option.some.injEq] at hk; subst hk; exact h2⟩
      · cases h
    · cases h
  | s k pre off n e' =>
    simp only [contE] at h ⊢
    split at h
    · rename_i hb; split at h
      · rename_i own cs hl
        obtain ⟨h1, h2⟩ := key k _ hl
        simp only [hb, h1]
        exact ⟨h, fun k' hk => by simp only [rootO, Option.some.injEq] at hk; subst hk; exact h2⟩
      · cases h
    · cases h
  | n k pre e' =>
    simp only [contE] at h ⊢
    split at h
    · rename_i hb; split at h
      · rename_i own cs hl
        obtain ⟨h1, h2⟩ := key k _ hl
        simp only [hb, h1]
        exact ⟨h, fun k' hk => by simp only [rootO, Option.some.injEq] at hk; subst hk; exact h2⟩
      · cases h
    · cases h
  | _ => simp [contE] at h
theorem apBase_ok {B : Bas} {ro : List (List T)} {m : Mst} (hm : Mem B ro m) {a : E0} {sz n : Nat} {c : List T} {ob1 : Obs} {aff : List Nat} {u : Value} (hr : E0R ro m a u) (h : apBase m.ob sz a = some (c, n, ob1, aff)) :
    Gone ro m.ob ob1 m.nk aff ∧ c.length = n * sz ∧ ((u = nl ∧ n = 0 ∧ c = []) ∨ ∃ x b0 F k, aff = [k] ∧ u = sl x b0 n sz ∧ Win m.s true c x b0 F ∧ F.Sublist (m.A k).F ∧ (m.A k).F.Nodup) := by
  cases a with
  | z =>
    simp only [apBase, Option.some.injEq, Prod.mk.injEq] at h
    obtain ⟨rfl, rfl, rfl, rfl⟩ := h
    exact ⟨Gone.nil hm.kok, by simp, .inl ⟨hr, rfl, rfl⟩⟩
  | t k e =>
    simp only [apBase] at h
    split at h
    · rename_i c0 hb hl
      have := Nat.eq_of_beq_eq_true hb; subst this
      simp only [Option.some.injEq, Prod.mk.injEq] at h
      obtain ⟨rfl, rfl, rfl, rfl⟩ := h
      have hl2 := look2_own (ro := ro) hl
      have hc := cont_ok (e := e) (n := cnt e c0) (c := c0) hm hr (by simp only [contE, hb, hl2]) (by simp only [lenE, hl2])
      refine ⟨(Gone.nil hm.kok).del hl rfl, hc.len, ?_⟩
      rcases hc.at_ with hc | ⟨x, b, F, own, rfl, hw, k', hk, hs⟩
      · exact .inl hc
      · simp only [rootO, Option.some.injEq] at hk; subst hk
        have hown := (hm.own k _ hl2 rfl).1
        rcases hm.obr k _ hl2 with ⟨h1, h2, _⟩ | ⟨h1, hw2⟩
        · obtain ⟨_, _, _, hr⟩ := hr
          rcases hr _ _ hl2 with ⟨hh, _⟩ | ⟨_, hh, _⟩
          · cases hh
          · rw [h1] at hh; cases hh
        · obtain ⟨_, _, _, hr⟩ := hr
          rcases hr _ _ hl2 with ⟨hh, _⟩ | ⟨n', _, hn', hh⟩
          · cases hh
          · cases hh
            exact .inr ⟨_, _, _, k, rfl, rfl, hw2, List.Sublist.refl _, hown⟩
    · cases h
  | s k pre off n' e =>
    cases pre with
    | cons i r => simp [apBase] at h
    | nil =>
    simp only [apBase] at h
    split at h
    · rename_i c0 hb hl
      have := Nat.eq_of_beq_eq_true hb; subst this
      simp only [Option.some.injEq, Prod.mk.injEq] at h
      obtain ⟨rfl, rfl, rfl, rfl⟩ := h
      have hl2 := look2_own (ro := ro) hl
      have hc := cont_ok (e := e) (n := n') (c := sub2 c0 [] off (n' * e)) hm hr (by simp only [contE, hb, hl2]) (by simp only [lenE, hl2])
      refine ⟨(Gone.nil hm.kok).del hl rfl, hc.len, ?_⟩
      have hown := (hm.own k _ hl2 rfl).1
      obtain ⟨_, _, hr⟩ := hr
      rcases hr _ _ hl2 with ⟨rfl, rfl⟩ | ⟨ds, h, b, h1, h2, h3, h4, rfl⟩
      · rcases hc.at_ with hc | ⟨x, b, F, own, hh, _⟩
        · exact .inl hc
        · cases hh
      · right
        obtain ⟨F, hw, hF⟩ := hm.node hl2 h3 h1 h4
        obtain ⟨F', hw', hF'⟩ := hw.sub h2
        have hsub : sub2 c0 [] off (n' * e) = (ds.drop off).take (n' * e) := by unfold sub2; rw [h1]
        rw [hsub]
        exact ⟨h, b + off, F', k, rfl, rfl, hw', hF'.trans hF, hown⟩
    · cases h
  | _ => simp [apBase] at h
theorem apPart_ok {B : Bas} {ro : List (List T)} {m : Mst} (hm : Mem B ro m) {x : E0} {sz mm : Nat} {c : List T} {ob1 ob2 : Obs} {dl : List Nat} {ks : List CK} {u : Value} (hr : E0R ro m x u) (hg : Gone ro m.ob ob1 m.nk dl) (hn : lenE ro m.ob x = some mm) (h : apPart ro ob1 ks x sz = some (c, ob2)) (hf : onlyC ks = true → flat c = true) :
    ∃ dl2 Fn us, Gone ro m.ob ob2 m.nk (dl2 ++ dl) ∧ m.s.got sz u = some us ∧ TRs m.s true c us Fn ∧ Mov m dl2 Fn ∧ (∀ k ∈ dl2, k ∉ dl) ∧ c.length = mm * sz ∧ (u = nl ∨ ∃ x b k o, u = sl x b mm sz ∧ k ∉ dl ∧ look2 ro m.ob k = some o ∧ (x ∈ (m.A k).F)) := by
  have hblk : ∀ {k : Option Nat}, Cont m k sz mm c u → (∀ k', k = some k' → k' ∉ dl ∧ ∃ o, look2 ro m.ob k' = some o) → (u = nl ∨ ∃ x b k o, u = sl x b mm sz ∧ k ∉ dl ∧ look2 ro m.ob k = some o ∧ (x ∈ (m.A k).F)) := by
    intro k hc hk
    rcases hc.at_ with ⟨h1, _⟩ | ⟨y, b, F, own, h1, hw, k', rfl, hs⟩
    · exact .inl h1
    · obtain ⟨h2, o, h3⟩ := hk k' rfl
      obtain ⟨_, _, _, _, _, _, rfl⟩ := hw
      exact .inr ⟨y, b, k', o, h1, h2, h3, hs.subset (by simp)⟩
  have hroot : ∀ {e : Nat} {c : List T} k', contE ro m.ob x e = some c → rootO x = some k' → ∃ o, look2 ro m.ob k' = some o := by
    intro e c k' hc hk
    cases x <;> simp only [rootO, reduceCtorEq, Option.some.injEq] at hk <;> subst hk <;> simp only [contE] at hc <;> (split at hc <;> try cases hc) <;> (split at hc <;> try cases hc) <;> exact ⟨_, by assumption⟩
  unfold apPart at h
  split at h
  · rename_i ho
    simp only [Option.map_eq_some_iff, Prod.mk.injEq] at h
    obtain ⟨c', h1, rfl, rfl⟩ := h
    obtain ⟨h2, h3⟩ := contE_gone hg h1
    have hc := cont_ok hm hr h2 hn
    obtain ⟨us, F, own, h4, h5⟩ := hc.got
    exact ⟨[], [], us, hg, h4, flat_TRs (hf ho) h5, Mov.nil m, fun k hk => by simp at hk, hc.len, hblk hc fun k' hk => ⟨h3 k' hk, hroot k' h2 hk⟩⟩
  · split at h
    · simp only [Option.some.injEq, Prod.mk.injEq] at h
      obtain ⟨rfl, rfl⟩ := h
      simp only [lenE, Option.some.injEq] at hn; subst hn
      have : u = nl := hr
      subst this
      exact ⟨[], [], [], hg, rfl, by simp only [TRs]; exact ⟨trivial, trivial⟩, Mov.nil m, fun k hk => by simp at hk, by simp, .inl rfl⟩
    · rename_i k e
      split at h
      · rename_i c0 hb hl
        have := Nat.eq_of_beq_eq_true hb; subst this
        simp only [Option.some.injEq, Prod.mk.injEq] at h
        obtain ⟨rfl, rfl⟩ := h
        obtain ⟨hkd, hkm⟩ := hg.at hl
        have hc := cont_ok (e := e) (c := c0) hm hr (by simp only [contE, hb, hkm]) hn
        have htr := own_TR hm hkm hr
        refine ⟨[k], ?_⟩
        have hown := (hm.own k _ hkm rfl).1
        rcases TR_l.1 htr with ⟨rfl, rfl, hF⟩ | ⟨y, b, n, rfl, hlen, hw⟩
        · refine ⟨[], [], hg.del hl rfl, rfl, by simp only [TRs]; exact ⟨trivial, trivial⟩, ⟨List.nodup_nil, fun x hx => by simp at hx⟩, fun j hj => by rw [List.mem_singleton.1 hj]; exact hkd, hc.len, .inl rfl⟩
        · obtain ⟨us, F, own, h4, _⟩ := hc.got
          obtain ⟨ob3, us2, F', q1, q2, q3, q4, q5, _, _, _⟩ := hw.vals
          have hus : us = us2 := by
            have hn0 : n = mm := by
              rcases hc.at_ with ⟨hh, _⟩ | ⟨_, _, _, _, hh, _⟩
              · cases hh
              · cases hh; rfl
            subst hn0
            by_cases h0 : n = 0
            · subst h0
              simp only [St.got, sl, if_true, Option.some.injEq] at h4
              subst h4
              have : us2.length = 0 := by rw [q4, hlen]; simp
              exact (List.eq_nil_of_length_eq_zero this).symm
            · simp only [St.got, sl, h0, if_false, if_true, q1, Option.bind_some] at h4
              rw [hlen] at q2
              rw [q2] at h4; exact (Option.some.inj h4).symm
          subst hus
          have hnd : F'.Nodup := (List.nodup_cons.1 (q5 ▸ hown)).2
          exact ⟨F', us, hg.del hl rfl, h4, q3, ⟨hnd, fun x hx => ⟨k, by simp, by rw [q5]; simp [hx]⟩⟩, fun j hj => by rw [List.mem_singleton.1 hj]; exact hkd, hc.len, hblk hc fun k' hk => by simp only [rootO, Option.some.injEq] at hk; subst hk; exact ⟨hkd, _, hkm⟩⟩
      · cases h
    · cases h
theorem ap_out {C : Ctx} {B : Bas} {ro : List (List T)} {m : Mst} (hm : Mem B ro m) {a x : E0} {sz by' n mm : Nat} {c1 c2 : List T} {ob1 ob2 : Obs} {aff : List Nat} {ks : List CK} {u1 u2 : Value} (hsz : 0 < sz) (hr1 : E0R ro m a u1) (hr2 : E0R ro m x u2)
    (h1 : apBase m.ob sz a = some (c1, n, ob1, aff)) (hn : lenE ro m.ob x = some mm) (h2 : apPart ro ob1 ks x sz = some (c2, ob2)) (hf : onlyC ks = true → flat c2 = true) (hb : (n + mm) * by' ≤ 2 ^ 47) :
    ∃ v s' A', Out C B ro m aff [] (.mu (ap sz by' u1 u2)) v (.o (.t m.nk sz)) ⟨s', (m.nk, .ls true (c1 ++ c2)) :: ob2, m.nk + 1, A'⟩ := by
  obtain ⟨hg, hl1, hbase⟩ := apBase_ok hm hr1 h1
  obtain ⟨dl2, Fn, us, hg2, hgot, htr, hmov, hdd, hl2, hblk⟩ := apPart_ok hm hr2 hg hn h2 hf
  have hus := TRs_len htr
  have hdiv : us.length / sz = mm := by rw [hus, hl2, Nat.mul_div_cancel _ hsz]
  have hmov2 : Mov m (dl2 ++ aff) Fn := ⟨hmov.nd, fun y hy => by obtain ⟨k, hk, hky⟩ := hmov.fr y hy; exact ⟨k, by simp [hk], hky⟩⟩
  rcases hbase with ⟨rfl, rfl, rfl⟩ | ⟨h, b0, F, k, rfl, rfl, hw, hF, hnd⟩
  · rw [List.nil_append]
    cases us with
    | nil =>
      have hc2 : c2 = [] := List.eq_nil_of_length_eq_zero (by rw [← hus]; rfl)
      subst hc2
      refine ⟨nl, m.s, _, nil_out hm hg2 hsz ?_⟩
      show ap sz by' nl u2 m.s = _
      simp only [ap, hgot, Option.bind_some, nl]
    | cons w ws =>
      refine ⟨_, _, _, list_out (s1 := m.s) (n := mm) hm hg2 hmov2 htr rfl (fun _ _ _ => rfl) hsz hl2 ?_ (fun _ _ _ _ _ _ => rfl)⟩
      show ap sz by' nl u2 m.s = _
      rw [Nat.zero_add] at hb
      simp only [ap, hgot, Option.bind_some, nl, hdiv, if_pos hb]
  · obtain ⟨ob, old, F1, g1, g2, g3, g4, rfl, g6, g7, g8⟩ := hw.vals
    have hh := St.get_lt g1
    have hhF : h ∈ (m.A k).F := hF.subset (by simp)
    obtain ⟨o, hko, how⟩ := hg.own k (by simp)
    have hFnd := List.nodup_cons.1 (hF.nodup hnd)
    have hfr : ∀ y, y ≠ h → (m.s.put h none).get y = m.s.get y := fun y hy => get_put_ne hy
    have hkd2 : ∀ j ∈ dl2, j ≠ k := fun j hj he => hdd j hj (by simp [he])
    have hdisj : ∀ y ∈ Fn, y ∉ (m.A k).F := fun y hy hyk => by
      obtain ⟨j, hj, hjy⟩ := hmov.fr y hy
      obtain ⟨o2, ho2, how2⟩ := hg2.own j (by simp [hj])
      exact hm.dis j k o2 o (hkd2 j hj) ho2 hko how2 y hjy hyk
    refine ⟨_, _, _, list_out (s1 := m.s.put h none) (us := old ++ us) (Fn := F1 ++ Fn) (n := n + mm) (aff := [k]) hm hg2 ⟨List.nodup_append.2 ⟨hFnd.2, hmov.nd, fun y hy z hz he => ?_⟩, fun y hy => ?_⟩ (TRs_app.2 ⟨old, us, F1, Fn, rfl, TRs_frame _ _ _ (fun y hy => hfr y fun he => hFnd.1 (he ▸ hy)) g3, TRs_frame _ _ _ (fun y hy => hfr y fun he => hdisj y hy (he ▸ hhF)) htr, rfl⟩) (by rw [St.put_n])
      (fun y hy hd => hfr y fun he => hd k (by simp) (he ▸ hhF)) hsz (by rw [List.length_append, hl1, hl2, Nat.add_mul]) ?_ (fun k' o2 ho2 hne y hy => hfr y fun he => ?_)⟩
    · subst he; exact hdisj y hz (hF.subset (by simp [hy]))
    · rcases List.mem_append.1 hy with hy | hy
      · exact ⟨k, by simp, hF.subset (by simp [hy])⟩
      · obtain ⟨j, hj, hjy⟩ := hmov.fr y hy; exact ⟨j, by simp [hj], hjy⟩
    · show ap sz by' (sl h b0 n sz) u2 m.s = _
      rw [hl1] at g2
      rcases hblk with rfl | ⟨y, b, k', o2, rfl, h5, h6, h7⟩
      · unfold ap; rw [hgot]
        simp only [Option.bind_some, sl, nl, g1, g2, hdiv, decide_eq_true hb, g6 rfl, beq_self_eq_true, Bool.and_self, Bool.true_and, if_true, St.put_n]
      · have hne : y ≠ h := fun he => by
          subst he
          exact hm.dis k k' o o2 (fun he => h5 (by simp [he])) hko h6 how y hhF h7
        unfold ap; rw [hgot]
        simp only [Option.bind_some, sl, g1, g2, hdiv, decide_eq_true hb, g6 rfl, beq_self_eq_true, Bool.and_self, Bool.true_and, if_true, St.put_n]
        simp [hne]
    · subst he
      have : k' ≠ k := fun he => by subst he; simp at hne
      exact hm.dis k k' o o2 (Ne.symm this) hko ho2 how y hhF hy
end Go.Proofs.Ytmikdglafmfnfaa.Eng
