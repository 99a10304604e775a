/- The pure engine's truth: what goes into trees; appending. -/
import Derived.Test.YtmikdglafmfnfaaEngPf
namespace Go.Proofs.Ytmikdglafmfnfaa.Eng
open Go Go.RowKit
set_option linter.unusedVariables false
set_option linter.constructorNameAsVariable false
set_option linter.unusedSimpArgs false
/-- An object of one's own: its rows. -/
theorem own_TR {B : Bas} {ro : List (List T)} {m : Mst} (hm : Mem B ro m) {k e : Nat} {cs : List T} {u : Value} (hl : look2 ro m.ob k = some (.ls true cs)) (hr : E0R ro m (.t k e) u) : TR m.s true (.l e cs) u (m.A k).F := by
  obtain ⟨_, _, _, hr⟩ := hr
  rcases hm.obr k _ hl with ⟨h1, rfl, h3⟩ | ⟨h1, hw⟩
  · rcases hr _ _ hl with ⟨rfl, _⟩ | ⟨n, h4, _⟩
    · rw [h3]; exact TR_l.2 (.inl ⟨rfl, rfl, rfl⟩)
    · rw [h1] at h4; cases h4
  · rcases hr _ _ hl with ⟨_, h4⟩ | ⟨n, _, h4, rfl⟩
    · rw [h1] at h4; cases h4
    · exact TR_l.2 (.inr ⟨_, _, n, rfl, h4, hw⟩)
/-- Rows that come from objects that are gone. -/
structure Mov (m : Mst) (dl : List Nat) (Fn : List Nat) : Prop where
  nd : Fn.Nodup
  fr : ∀ x ∈ Fn, ∃ k ∈ dl, x ∈ (m.A k).F
theorem Mov.nil (m : Mst) : Mov m [] [] := ⟨List.nodup_nil, fun x hx => by simp at hx⟩
theorem Gone.at {ro : List (List T)} {ob ob1 : Obs} {nk k : Nat} {dl : List Nat} {o : Ob2} (h : Gone ro ob ob1 nk dl) (hl : lookO ob1 k = some o) : k ∉ dl ∧ look2 ro ob k = some o := by
  have := look2_own (ro := ro) hl
  rw [h.look] at this
  split at this
  · cases this
  · exact ⟨by assumption, this⟩
theorem toT_ok {B : Bas} {ro : List (List T)} {m : Mst} (hm : Mem B ro m) : ∀ (ks : List CK) (xs : List E0) (us : List Value) (ob ob' : Obs) (ts : List T) (dl : List Nat), Gone ro m.ob ob m.nk dl → toT ks xs ob = some (ts, ob') → AllE (E0R ro m) xs us →
    ∃ dl' Fn, Gone ro m.ob ob' m.nk (dl' ++ dl) ∧ TRs m.s true ts us Fn ∧ Mov m dl' Fn ∧ (∀ k ∈ dl', k ∉ dl) ∧ ts.length = ks.length := by
  intro ks
  induction ks with
  | nil =>
    intro xs us ob ob' ts dl hg ht ha
    cases xs with
    | nil =>
      simp only [toT, Option.some.injEq, Prod.mk.injEq] at ht
      obtain ⟨rfl, rfl⟩ := ht
      cases us with
      | nil => exact ⟨[], [], hg, by simp only [TRs]; exact ⟨trivial, trivial⟩, Mov.nil m, fun k hk => by simp at hk, rfl⟩
      | cons u us => exact ha.elim
    | cons x xs => simp [toT] at ht
  | cons c ks ih =>
    intro xs us ob ob' ts dl hg ht ha
    cases xs with
    | nil => cases c <;> simp [toT] at ht
    | cons x xs =>
      cases us with
      | nil => exact ha.elim
      | cons u us =>
        obtain ⟨hx, ha⟩ := ha
        cases c with
        | c =>
          cases x <;> simp only [toT, reduceCtorEq] at ht
          rename_i a
          simp only [Option.map_eq_some_iff] at ht
          obtain ⟨p, hp, h2⟩ := ht
          cases h2
          obtain ⟨dl', Fn, g1, g2, g3, g4, g5⟩ := ih _ _ _ _ _ _ hg hp ha
          refine ⟨dl', Fn, g1, ?_, g3, g4, by simp [g5]⟩
          simp only [TRs]
          exact ⟨u, us, [], Fn, rfl, by simp [TR, hx.1, hx.2], g2, rfl⟩
        | l e =>
          cases x <;> simp only [toT, reduceCtorEq] at ht
          · simp only [Option.map_eq_some_iff] at ht
            obtain ⟨p, hp, h2⟩ := ht
            cases h2
            obtain ⟨dl', Fn, g1, g2, g3, g4, g5⟩ := ih _ _ _ _ _ _ hg hp ha
            refine ⟨dl', Fn, g1, ?_, g3, g4, by simp [g5]⟩
            simp only [TRs]
            exact ⟨u, us, [], Fn, rfl, TR_l.2 (.inl ⟨hx, rfl, rfl⟩), g2, rfl⟩
          · rename_i k e'
            split at ht
            · rename_i hb hk
              have := Nat.eq_of_beq_eq_true hb; subst this
              simp only [Option.map_eq_some_iff] at ht
              obtain ⟨p, hp, h2⟩ := ht
              cases h2
              obtain ⟨hkd, hkm⟩ := hg.at hk
              obtain ⟨dl', Fn, g1, g2, g3, g4, g5⟩ := ih _ _ _ _ _ _ (hg.del hk rfl) hp ha
              refine ⟨dl' ++ [k], (m.A k).F ++ Fn, by simpa using g1, ?_, ⟨?_, fun y hy => ?_⟩, fun j hj => ?_, by simp [g5]⟩
              · simp only [TRs]
                exact ⟨u, us, _, Fn, rfl, own_TR hm hkm hx, g2, rfl⟩
              · refine List.nodup_append.2 ⟨(hm.own k _ hkm rfl).1, g3.nd, fun y hy z hz he => ?_⟩
                subst he
                obtain ⟨j, hj, hjy⟩ := g3.fr y hz
                obtain ⟨o2, ho2, how⟩ := g1.own j (by simp [hj])
                exact hm.dis k j _ o2 (fun he => g4 j hj (by simp [he])) hkm ho2 rfl y hy hjy
              · rcases List.mem_append.1 hy with hy | hy
                · exact ⟨k, by simp, hy⟩
                · obtain ⟨j, hj, hjy⟩ := g3.fr y hy
                  exact ⟨j, by simp [hj], hjy⟩
              · rcases List.mem_append.1 hj with hj | hj
                · exact fun hd => g4 j hj (by simp [hd])
                · rw [List.mem_singleton.1 hj]; exact hkd
            · cases ht
theorem Mov.disj {B : Bas} {ro : List (List T)} {m : Mst} {dl : List Nat} {Fn : List Nat} (hm : Mem B ro m) (h : Mov m dl Fn) (hd : ∀ j ∈ dl, ∃ o, look2 ro m.ob j = some o ∧ isOwn o = true) {k : Nat} {o : Ob2} (hk : look2 ro m.ob k = some o) (hkd : k ∉ dl) : ∀ x ∈ Fn, x ∉ (m.A k).F := by
  intro x hx hxk
  obtain ⟨j, hj, hjx⟩ := h.fr x hx
  obtain ⟨o2, ho2, how⟩ := hd j hj
  exact hm.dis j k o2 o (fun he => hkd (he ▸ hj)) ho2 hk how x hjx hxk
/-- A write of more than plain cells. -/
theorem store_t {C : Ctx} {B : Bas} {ro : List (List T)} {m : Mst} {k off sz : Nat} {pre : List Nat} {cs ts ds : List T} {ks : List CK} {xs : List E0} {ob' : Obs} {u v : Value} (hm : Mem B ro m) (ht : toT ks xs m.ob = some (ts, ob')) (hl : lookO ob' k = some (.ls true cs)) (hu : E0R ro m (.e k pre off) u)
    (hv : vok v = true) (hx : AllE (E0R ro m) xs (cellsOf v)) (hks : ks.length = sz) (hn : node cs pre = some ds) (hle : off + ts.length ≤ ds.length) (hpos : 0 < sz) :
    ∃ s' A', Out C B ro m [k] [k] (.mu (sto sz u v)) undef (.o .w) ⟨s', killO [k] (setO ob' k (.ls true (cput cs pre off ts))), m.nk, A'⟩ := by
  obtain ⟨dl, Fn, hg, htr, hmov, _, htl⟩ := toT_ok hm ks xs (cellsOf v) m.ob ob' ts [] (Gone.nil hm.kok) ht hx
  rw [List.append_nil] at hg
  obtain ⟨hkd, hl2⟩ := hg.at hl
  obtain ⟨ds', h, b, F, h1, h2, h3, rfl, hw, hF⟩ := elem_ok hm hu hl2
  rw [hn] at h1; cases h1
  have hown := hm.own k _ hl2 rfl
  have hcl : (cellsOf v).length = ts.length := TRs_len htr
  obtain ⟨_, hwk⟩ : _ ∧ Win m.s true cs (m.A k).h (m.A k).b (m.A k).F := by
    rcases hm.obr k _ hl2 with ⟨hh, _⟩ | hh
    · rw [h2] at hh; cases hh
    · exact hh
  obtain ⟨ob, F1, g1, g2, g3, g4, rfl⟩ := hw
  have hh := St.get_lt g1
  have hgo : sto sz (pt h (b + off)) v m.s = some (undef, m.s.put h (some ⟨splice ob.cells (b + off) (cellsOf v), true⟩)) := sto_ok g1 (g2 rfl) hv (by omega) (by omega)
  have hhF : h ∈ (m.A k).F := hF.subset (by simp)
  have hfr : ∀ x, x ≠ h → (m.s.put h (some ⟨splice ob.cells (b + off) (cellsOf v), true⟩)).get x = m.s.get x := fun x hx => get_put_ne hx
  have hput : cput cs pre off ts = nput cs pre (lput ds off ts) := by unfold cput; rw [hn]
  have hll : (lput ds off ts).length = ds.length := lput_length hle
  have hFn : ∀ x ∈ Fn, x ∉ (m.A k).F := hmov.disj hm hg.own hl2 hkd
  obtain ⟨F2, p1, p2, p3⟩ := Win.put (s' := m.s.put h (some ⟨splice ob.cells (b + off) (cellsOf v), true⟩)) (ds' := lput ds off ts) (Fn := Fn) hwk hown.1 hn h3 hll (fun G hG hGw => by
    obtain ⟨ob2, G1, r1, r2, r3, r4, rfl⟩ := hGw
    rw [g1] at r1; cases r1
    have hGn := hG.nodup hown.1
    have hGn1 := List.nodup_cons.1 hGn
    have hsame : ∀ x ∈ G1, (m.s.put h (some ⟨splice ob.cells (b + off) (cellsOf v), true⟩)).get x = m.s.get x := fun x hx => hfr x fun he => hGn1.1 (by rw [← he]; exact hx)
    obtain ⟨Fa, Fb, Fc, rfl, t1, t2, t3⟩ := TRs_mid r4 off ts.length
    have hsubA : ∀ x, x ∈ Fa ∨ x ∈ Fc → x ∈ (m.A k).F := fun x hx => hG.subset (by rcases hx with hx | hx <;> simp [hx])
    have nd1 := List.nodup_append.1 hGn1.2
    have nd2 := List.nodup_append.1 nd1.2.1
    refine ⟨h :: (Fa ++ (Fn ++ Fc)), ⟨_, Fa ++ (Fn ++ Fc), get_put_self hh, fun _ => rfl, by rw [hll, splice_length _ _ _ (by rw [hcl]; omega)]; exact r3, ?_, rfl⟩, ?_, fun x hx => ?_, fun x _ hx => hfr x fun he => hx (by rw [he]; simp)⟩
    · have := TRs_put (Fb := Fb) (ts' := ts) (us' := cellsOf v) (Fb' := Fn) t1 t3 (TRs_frame _ _ _ (fun x hx => hfr x fun he => hFn x hx (by rw [he]; exact hhF)) htr) (fun x hx => hsame x (by simp [hx])) (fun x hx => hsame x (by simp [hx]))
      rw [hll]
      have e2 : ((splice ob.cells (b + off) (cellsOf v)).drop b).take ds.length = ((ob.cells.drop b).take ds.length).take off ++ (cellsOf v ++ ((ob.cells.drop b).take ds.length).drop (off + ts.length)) := by
        have hlen : ((ob.cells.drop b).take ds.length).length = ds.length := by rw [List.length_take, List.length_drop]; omega
        apply List.ext_getElem?
        intro i
        by_cases hi : i < ds.length
        · rw [win_at _ _ _ _ hi, splice_get _ _ _ (by rw [hcl]; omega)]
          by_cases h5 : i < off
          · rw [if_neg (by omega), List.getElem?_append_left (by rw [List.length_take]; omega), List.getElem?_take_of_lt h5, win_at _ _ _ _ hi]
          · rw [List.getElem?_append_right (by rw [List.length_take]; omega)]
            have e3 : (((ob.cells.drop b).take ds.length).take off).length = off := by rw [List.length_take]; omega
            rw [e3]
            by_cases h6 : i < off + ts.length
            · rw [if_pos (by omega), List.getElem?_append_left (by omega)]
              congr 1; omega
            · rw [if_neg (by omega), List.getElem?_append_right (by omega), List.getElem?_drop, win_at _ _ _ _ (by omega)]
              congr 1; omega
        · rw [List.getElem?_eq_none (by rw [List.length_take]; omega), List.getElem?_eq_none (by rw [List.length_append, List.length_append, List.length_take, List.length_drop]; omega)]
      rw [e2]; exact this
    · refine List.nodup_cons.2 ⟨fun hx => ?_, List.nodup_append.2 ⟨nd1.1, List.nodup_append.2 ⟨hmov.nd, nd2.2.1, fun x hx y hy he => ?_⟩, fun x hx y hy he => ?_⟩⟩
      · rcases List.mem_append.1 hx with hx | hx
        · exact hGn1.1 (by simp [hx])
        · rcases List.mem_append.1 hx with hx | hx
          · exact hFn h hx hhF
          · exact hGn1.1 (by simp [hx])
      · subst he; exact hFn x hx (hsubA x (.inr hy))
      · subst he
        rcases List.mem_append.1 hy with hy | hy
        · exact hFn x hy (hsubA x (.inl hx))
        · exact nd1.2.2 x hx x (by simp [hy]) rfl
    · rcases List.mem_cons.1 hx with rfl | hx
      · exact .inl (by simp)
      · rcases List.mem_append.1 hx with hx | hx
        · exact .inl (by simp [hx])
        · rcases List.mem_append.1 hx with hx | hx
          · exact .inr hx
          · exact .inl (by simp [hx])) hFn
  have key := chg_out (C := C) (B := B) (kl := [k]) (aff := [k]) (o' := .ls true (cput cs pre off ts)) (a := ⟨false, (m.A k).h, (m.A k).b, F2⟩) (st := .mu (sto sz (pt h (b + off)) v)) (v := undef) (e := .o .w) hm hg hl rfl
    (s' := m.s.put h (some ⟨splice ob.cells (b + off) (cellsOf v), true⟩)) (Nat.le_refl _) (fun x _ _ hx => hfr x fun he => hx (by rw [he]; exact hhF)) p2 (fun x hx => ?_) ?_ ?_ hgo ?_ trivial ?_
  · exact ⟨_, _, key⟩
  · rcases p3 x hx with hx | hx
    · exact .inr (.inl hx)
    · exact .inl (hmov.fr x hx)
  · intro o2 ho2
    simp only [look2_kill, look2_set hl, if_true, Option.map_some, killB, Option.some.injEq] at ho2
    subst ho2
    exact ⟨true, cs, hl2, by rw [hput]; exact nput_length hn hll, by simp only [updA_self, h2], by simp only [updA_self], by simp only [updA_self]⟩
  · intro hq
    simp at hq
  · intro hkp
    simp only [killB]
    exact .inr ⟨by simp only [updA_self], by simp only [updA_self]; rw [hput]; exact p1⟩
  · intro k' o2 ho2 hne x hx
    refine hfr x fun he => ?_
    subst he
    have : k' ≠ k := fun he => by subst he; simp at hne
    exact hm.dis k k' _ o2 (Ne.symm this) hl2 ho2 rfl x hhF hx
/-! ### New slices -/
/-- A new list, of what is gone and of new cells. -/
theorem list_out {C : Ctx} {B : Bas} {ro : List (List T)} {m : Mst} {ob1 : Obs} {dl aff Fn : List Nat} {ts : List T} {us : List Value} {s1 : St} {st : Stp} {n e : Nat} (hm : Mem B ro m) (hg : Gone ro m.ob ob1 m.nk dl) (hmov : Mov m dl Fn) (htr : TRs s1 true ts us Fn) (hs1 : s1.n = m.s.n)
    (hfr : ∀ h, h < m.s.n → (∀ k ∈ dl, h ∉ (m.A k).F) → s1.get h = m.s.get h) (he : 0 < e) (hl : ts.length = n * e)
    (hgo : stpGoes C st m.s (sl m.s.n 0 n e) (s1.push ⟨us, true⟩)) (haf : ∀ k o, look2 ro m.ob k = some o → aff.any (Nat.beq k) = false → ∀ h ∈ (m.A k).F, s1.get h = m.s.get h) :
    Out C B ro m aff [] st (sl m.s.n 0 n e) (.o (.t m.nk e)) ⟨s1.push ⟨us, true⟩, (m.nk, .ls true ts) :: ob1, m.nk + 1, updA m.A m.nk ⟨false, m.s.n, 0, m.s.n :: Fn⟩⟩ := by
  have hFlt : ∀ x ∈ Fn, x < m.s.n := fun x hx => by
    obtain ⟨k, hk, hkx⟩ := hmov.fr x hx
    obtain ⟨o, ho, _⟩ := hg.own k hk
    exact (hm.obr k o ho).lt x hkx
  have hpush : ∀ h, h < m.s.n → (s1.push ⟨us, true⟩).get h = s1.get h := fun h hh => get_push_lt (by omega)
  refine new_out hm hg (by rw [St.push_n]; omega) (fun h hh hd => by rw [hpush h hh]; exact hfr h hh hd) ?_ (fun h hh => ?_) hgo (fun hkp => ?_) ?_ (fun k o ho ha h hh => by rw [hpush h ((hm.obr k o ho).lt h hh)]; exact haf k o ho ha h hh)
  · exact List.nodup_cons.2 ⟨fun hx => by have := hFlt _ hx; omega, hmov.nd⟩
  · rcases List.mem_cons.1 hh with rfl | hh
    · exact .inr (Nat.le_refl _)
    · exact .inl (hmov.fr h hh)
  · refine .inr ⟨by simp only [updA_self], ?_⟩
    simp only [updA_self]
    have hul := TRs_len htr
    refine ⟨⟨us, true⟩, Fn, by rw [← hs1]; exact get_push_self, fun _ => rfl, by simp; omega, ?_, rfl⟩
    rw [List.drop_zero, ← hul, List.take_length]
    exact TRs_frame _ _ _ (fun x hx => hpush x (hFlt x hx)) htr
  · refine ⟨Nat.lt_succ_self _, rfl, he, fun own cs hlk => .inr ⟨n, by simp only [updA_self], ?_, by simp only [updA_self]⟩⟩
    simp only [look2_cons, if_true, Option.some.injEq, Ob2.ls.injEq] at hlk
    obtain ⟨_, rfl⟩ := hlk
    exact hl
theorem zTs_ok {s : St} : ∀ {ks : List CK} {z : List Value} {zt : List T}, zTs ks z = some zt → TRs s true zt z [] ∧ zt.length = ks.length
  | [], [], zt, h => by simp only [zTs, Option.some.injEq] at h; subst h; exact ⟨by simp only [TRs]; exact ⟨trivial, trivial⟩, rfl⟩
  | [], _ :: _, zt, h => by simp [zTs] at h
  | .c :: r, [], zt, h => by simp [zTs] at h
  | .l e :: r, [], zt, h => by simp [zTs] at h
  | .c :: r, v :: vs, zt, h => by
    simp only [zTs] at h
    split at h
    · rename_i hp
      simp only [Option.map_eq_some_iff] at h
      obtain ⟨y, h1, rfl⟩ := h
      obtain ⟨h2, h3⟩ := zTs_ok h1
      exact ⟨by simp only [TRs]; exact ⟨v, vs, [], [], rfl, by simp [TR, hp], h2, rfl⟩, by simp [h3]⟩
    · cases h
  | .l e :: r, v :: vs, zt, h => by
    have hv : v = .slice none 0 0 := by
      cases v <;> try (simp [zTs] at h; done)
      rename_i a n c
      cases a with
      | some a => simp [zTs] at h
      | none => cases n with
        | succ n => simp [zTs] at h
        | zero => cases c with
          | succ c => simp [zTs] at h
          | zero => rfl
    subst hv
    simp only [zTs, Option.map_eq_some_iff] at h
    obtain ⟨y, h1, rfl⟩ := h
    obtain ⟨h2, h3⟩ := zTs_ok h1
    exact ⟨by simp only [TRs]; exact ⟨_, vs, [], [], rfl, TR_l.2 (.inl ⟨rfl, rfl, rfl⟩), h2, rfl⟩, by simp [h3]⟩
theorem rep_ok {s : St} {zt : List T} {z : List Value} (h : TRs s true zt z []) : ∀ {n : Nat}, TRs s true (repT n zt) (reps n z) [] ∧ (repT n zt).length = n * zt.length
  | 0 => ⟨by simp [repT, reps, TRs], by simp [repT]⟩
  | n + 1 => by
    obtain ⟨h1, h2⟩ := rep_ok h (n := n)
    unfold repT reps at *
    rw [List.replicate_succ, List.flatten_cons, List.replicate_succ, List.flatten_cons]
    exact ⟨TRs_app.2 ⟨_, _, [], [], rfl, h, h1, rfl⟩, by rw [List.length_append, h2, Nat.add_mul]; omega⟩
end Go.Proofs.Ytmikdglafmfnfaa.Eng
