/- The pure engine, first part: trees. Rows of the engine's memory are read as trees; whoever writes elsewhere does not change them. -/
import Derived.Test.YtmikdglafmfnfaaEngU
namespace Go.Proofs.Ytmikdglafmfnfaa.Eng
open Go Go.RowKit
set_option linter.unusedVariables false
set_option linter.unusedSimpArgs false
/-- A cell with all that hangs on it: plain, or a slice of elements of e cells. -/
inductive T where
  | c (v : Value)
  | l (e : Nat) (cs : List T)
mutual
def TR (s : St) (o : Bool) : T → Value → List Nat → Prop
  | .c v, u, F => u = v ∧ plain v = true ∧ F = []
  | .l e cs, u, F => (u = nl ∧ cs = [] ∧ F = []) ∨ ∃ h b n ob F', u = sl h b n e ∧ cs.length = n * e ∧ s.get h = some ob ∧ (o = true → ob.own = true) ∧ b + cs.length ≤ ob.cells.length ∧ TRs s o cs ((ob.cells.drop b).take cs.length) F' ∧ F = h :: F'
def TRs (s : St) (o : Bool) : List T → List Value → List Nat → Prop
  | [], us, F => us = [] ∧ F = []
  | t :: ts, us, F => ∃ u us' F1 F2, us = u :: us' ∧ TR s o t u F1 ∧ TRs s o ts us' F2 ∧ F = F1 ++ F2
end
/-- The cells cs lie in row h from b on; with all that hangs on them they take the rows F. -/
def Win (s : St) (o : Bool) (cs : List T) (h b : Nat) (F : List Nat) : Prop :=
  ∃ ob F', s.get h = some ob ∧ (o = true → ob.own = true) ∧ b + cs.length ≤ ob.cells.length ∧ TRs s o cs ((ob.cells.drop b).take cs.length) F' ∧ F = h :: F'
theorem TR_l {s : St} {o : Bool} {e : Nat} {cs : List T} {u : Value} {F : List Nat} : TR s o (.l e cs) u F ↔ (u = nl ∧ cs = [] ∧ F = []) ∨ ∃ h b n, u = sl h b n e ∧ cs.length = n * e ∧ Win s o cs h b F := by
  simp only [TR, Win]
  constructor
  · rintro (h | ⟨h, b, n, ob, F', h1, h2, h3, h4, h5, h6, h7⟩)
    · exact .inl h
    · exact .inr ⟨h, b, n, h1, h2, ob, F', h3, h4, h5, h6, h7⟩
  · rintro (h | ⟨h, b, n, h1, h2, ob, F', h3, h4, h5, h6, h7⟩)
    · exact .inl h
    · exact .inr ⟨h, b, n, ob, F', h1, h2, h3, h4, h5, h6, h7⟩
theorem TRs_len {s : St} {o : Bool} : ∀ {ts : List T} {us : List Value} {F : List Nat}, TRs s o ts us F → us.length = ts.length
  | [], us, F, h => by simp only [TRs] at h; rw [h.1]; rfl
  | t :: ts, us, F, h => by
    simp only [TRs] at h
    obtain ⟨u, us', F1, F2, rfl, _, h2, _⟩ := h
    simp [TRs_len h2]
mutual
theorem TR_frame {s s' : St} {o : Bool} : ∀ (t : T) (u : Value) (F : List Nat), (∀ h ∈ F, s'.get h = s.get h) → TR s o t u F → TR s' o t u F
  | .c v, u, F, _, h => by simp only [TR] at h ⊢; exact h
  | .l e cs, u, F, hf, h => by
    simp only [TR] at h ⊢
    rcases h with h | ⟨x, b, n, ob, F', h1, h2, h3, h4, h5, h6, rfl⟩
    · exact .inl h
    · exact .inr ⟨x, b, n, ob, F', h1, h2, by rw [hf x (by simp)]; exact h3, h4, h5, TRs_frame cs _ _ (fun y hy => hf y (by simp [hy])) h6, rfl⟩
theorem TRs_frame {s s' : St} {o : Bool} : ∀ (ts : List T) (us : List Value) (F : List Nat), (∀ h ∈ F, s'.get h = s.get h) → TRs s o ts us F → TRs s' o ts us F
  | [], us, F, _, h => by simp only [TRs] at h ⊢; exact h
  | t :: ts, us, F, hf, h => by
    simp only [TRs] at h ⊢
    obtain ⟨u, us', F1, F2, h1, h2, h3, rfl⟩ := h
    exact ⟨u, us', F1, F2, h1, TR_frame t u F1 (fun y hy => hf y (by simp [hy])) h2, TRs_frame ts us' F2 (fun y hy => hf y (by simp [hy])) h3, rfl⟩
end
mutual
theorem TR_ro {s : St} {o : Bool} : ∀ (t : T) (u : Value) (F : List Nat), TR s o t u F → TR s false t u F
  | .c v, u, F, h => by simp only [TR] at h ⊢; exact h
  | .l e cs, u, F, h => by
    simp only [TR] at h ⊢
    rcases h with h | ⟨x, b, n, ob, F', h1, h2, h3, h4, h5, h6, rfl⟩
    · exact .inl h
    · exact .inr ⟨x, b, n, ob, F', h1, h2, h3, (fun h => by cases h), h5, TRs_ro cs _ _ h6, rfl⟩
theorem TRs_ro {s : St} {o : Bool} : ∀ (ts : List T) (us : List Value) (F : List Nat), TRs s o ts us F → TRs s false ts us F
  | [], us, F, h => by simp only [TRs] at h ⊢; exact h
  | t :: ts, us, F, h => by
    simp only [TRs] at h ⊢
    obtain ⟨u, us', F1, F2, h1, h2, h3, h4⟩ := h
    exact ⟨u, us', F1, F2, h1, TR_ro t u F1 h2, TRs_ro ts us' F2 h3, h4⟩
end
mutual
theorem TR_lt {s : St} {o : Bool} : ∀ (t : T) (u : Value) (F : List Nat), TR s o t u F → ∀ h ∈ F, h < s.n
  | .c v, u, F, h => by simp only [TR] at h; rw [h.2.2]; simp
  | .l e cs, u, F, h => by
    simp only [TR] at h
    rcases h with ⟨_, _, rfl⟩ | ⟨x, b, n, ob, F', h1, h2, h3, h4, h5, h6, rfl⟩
    · simp
    · intro y hy
      rcases List.mem_cons.1 hy with rfl | hy
      · exact St.get_lt h3
      · exact TRs_lt cs _ _ h6 y hy
theorem TRs_lt {s : St} {o : Bool} : ∀ (ts : List T) (us : List Value) (F : List Nat), TRs s o ts us F → ∀ h ∈ F, h < s.n
  | [], us, F, h => by simp only [TRs] at h; rw [h.2]; simp
  | t :: ts, us, F, h => by
    simp only [TRs] at h
    obtain ⟨u, us', F1, F2, h1, h2, h3, rfl⟩ := h
    intro y hy
    rcases List.mem_append.1 hy with hy | hy
    · exact TR_lt t u F1 h2 y hy
    · exact TRs_lt ts us' F2 h3 y hy
end
theorem TRs_app {s : St} {o : Bool} : ∀ {a b : List T} {us : List Value} {F : List Nat}, TRs s o (a ++ b) us F ↔ ∃ us1 us2 F1 F2, us = us1 ++ us2 ∧ TRs s o a us1 F1 ∧ TRs s o b us2 F2 ∧ F = F1 ++ F2
  | [], b, us, F => by
    constructor
    · intro h; exact ⟨[], us, [], F, rfl, ⟨rfl, rfl⟩, h, rfl⟩
    · rintro ⟨us1, us2, F1, F2, rfl, h1, h2, rfl⟩
      simp only [TRs] at h1
      obtain ⟨rfl, rfl⟩ := h1
      exact h2
  | t :: a, b, us, F => by
    constructor
    · intro h
      simp only [List.cons_append, TRs] at h
      obtain ⟨u, us', F1, F2, rfl, h2, h3, rfl⟩ := h
      obtain ⟨us1, us2, G1, G2, rfl, k1, k2, rfl⟩ := TRs_app.1 h3
      exact ⟨u :: us1, us2, F1 ++ G1, G2, rfl, by simp only [TRs]; exact ⟨u, us1, F1, G1, rfl, h2, k1, rfl⟩, k2, by simp⟩
    · rintro ⟨us1, us2, F1, F2, rfl, h1, h2, rfl⟩
      simp only [TRs] at h1
      obtain ⟨u, us', G1, G2, rfl, k1, k2, rfl⟩ := h1
      simp only [List.cons_append, TRs]
      exact ⟨u, us' ++ us2, G1, G2 ++ F2, rfl, k1, TRs_app.2 ⟨us', us2, G2, F2, rfl, k2, h2, rfl⟩, by simp⟩
theorem TRs_one {s : St} {o : Bool} {t : T} {us : List Value} {F : List Nat} : TRs s o [t] us F ↔ ∃ u, us = [u] ∧ TR s o t u F := by
  simp only [TRs]
  constructor
  · rintro ⟨u, us', F1, F2, rfl, h, ⟨rfl, rfl⟩, rfl⟩
    exact ⟨u, rfl, by simpa using h⟩
  · rintro ⟨u, rfl, h⟩
    exact ⟨u, [], F, [], rfl, h, ⟨rfl, rfl⟩, by simp⟩
/-- The parts ahead of, at and behind m cells. -/
theorem TRs_mid {s : St} {o : Bool} {ts : List T} {us : List Value} {F : List Nat} (h : TRs s o ts us F) (i m : Nat) : ∃ Fa Fb Fc, F = Fa ++ (Fb ++ Fc) ∧ TRs s o (ts.take i) (us.take i) Fa ∧ TRs s o ((ts.drop i).take m) ((us.drop i).take m) Fb ∧ TRs s o (ts.drop (i + m)) (us.drop (i + m)) Fc := by
  have e : ts = ts.take i ++ ((ts.drop i).take m ++ ts.drop (i + m)) := by
    rw [← List.drop_drop, List.take_append_drop, List.take_append_drop]
  have hl := TRs_len h
  rw [e] at h
  obtain ⟨u1, u2, Fa, F2, rfl, h1, h2, rfl⟩ := TRs_app.1 h
  obtain ⟨u3, u4, Fb, Fc, rfl, h3, h4, rfl⟩ := TRs_app.1 h2
  have l1 := TRs_len h1
  have l3 := TRs_len h3
  have l4 := TRs_len h4
  refine ⟨Fa, Fb, Fc, rfl, ?_, ?_, ?_⟩
  · have : (u1 ++ (u3 ++ u4)).take i = u1 := by
      rcases Nat.le_total i ts.length with hi | hi
      · have : u1.length = i := by rw [l1, List.length_take]; omega
        rw [← this, List.take_left]
      · have e2 : u3 ++ u4 = [] := by
          apply List.eq_nil_of_length_eq_zero
          rw [List.length_append, l3, l4, List.length_take, List.length_drop, List.length_drop]; omega
        rw [e2, List.append_nil, List.take_of_length_le]; rw [l1, List.length_take]; omega
    rw [this]; exact h1
  · have : ((u1 ++ (u3 ++ u4)).drop i).take m = u3 := by
      rcases Nat.le_total i ts.length with hi | hi
      · have : u1.length = i := by rw [l1, List.length_take]; omega
        rw [← this, List.drop_left]
        rcases Nat.le_total m (ts.length - i) with hm | hm
        · have : u3.length = m := by rw [l3, List.length_take, List.length_drop]; omega
          rw [← this, List.take_left]
        · have e2 : u4 = [] := by
            apply List.eq_nil_of_length_eq_zero
            rw [l4, List.length_drop]; omega
          rw [e2, List.append_nil, List.take_of_length_le]; rw [l3, List.length_take, List.length_drop]; omega
      · have e2 : u3 = [] := by
          apply List.eq_nil_of_length_eq_zero
          rw [l3, List.length_take, List.length_drop]; omega
        have e3 : u4 = [] := by
          apply List.eq_nil_of_length_eq_zero
          rw [l4, List.length_drop]; omega
        rw [e2, e3]; rw [List.drop_eq_nil_of_le]; · exact List.take_nil
        · simp [l1, List.length_take]; omega
    rw [this]; exact h3
  · have : (u1 ++ (u3 ++ u4)).drop (i + m) = u4 := by
      rw [← List.append_assoc]
      rcases Nat.le_total (i + m) ts.length with hi | hi
      · have : (u1 ++ u3).length = i + m := by rw [List.length_append, l1, l3, List.length_take, List.length_take, List.length_drop]; omega
        rw [← this, List.drop_left]
      · have e2 : u4 = [] := by
          apply List.eq_nil_of_length_eq_zero
          rw [l4, List.length_drop]; omega
        rw [e2, List.append_nil, List.drop_eq_nil_of_le]
        rw [List.length_append, l1, l3, List.length_take, List.length_take, List.length_drop]; omega
    rw [this]; exact h4
theorem TRs_get {s : St} {o : Bool} {ts : List T} {us : List Value} {F : List Nat} (h : TRs s o ts us F) {i : Nat} {t : T} (hi : ts[i]? = some t) : ∃ u F', us[i]? = some u ∧ TR s o t u F' ∧ F'.Sublist F := by
  obtain ⟨Fa, Fb, Fc, rfl, h1, h2, h3⟩ := TRs_mid h i 1
  have hlt := (List.getElem?_eq_some_iff.1 hi).1
  have e : (ts.drop i).take 1 = [t] := by rw [List.take_one, List.head?_drop, hi]; rfl
  rw [e] at h2
  obtain ⟨u, hu, h2⟩ := TRs_one.1 h2
  refine ⟨u, Fb, ?_, h2, (List.sublist_append_left Fb Fc).trans (List.sublist_append_right Fa _)⟩
  rw [List.take_one, List.head?_drop] at hu
  cases hx : us[i]? with
  | none => rw [hx] at hu; simp at hu
  | some y => rw [hx] at hu; simp at hu; rw [hu]
/-- In place of m cells others: the rows of the rest stay. -/
theorem TRs_put {s s' : St} {o : Bool} {ts ts' : List T} {us us' : List Value} {Fa Fb Fb' Fc : List Nat} {i : Nat} (h1 : TRs s o (ts.take i) (us.take i) Fa) (h3 : TRs s o (ts.drop (i + ts'.length)) (us.drop (i + ts'.length)) Fc)
    (h2 : TRs s' o ts' us' Fb') (ha : ∀ x ∈ Fa, s'.get x = s.get x) (hc : ∀ x ∈ Fc, s'.get x = s.get x) : TRs s' o (ts.take i ++ (ts' ++ ts.drop (i + ts'.length))) (us.take i ++ (us' ++ us.drop (i + ts'.length))) (Fa ++ (Fb' ++ Fc)) :=
  TRs_app.2 ⟨_, _, _, _, rfl, TRs_frame _ _ _ ha h1, TRs_app.2 ⟨_, _, _, _, rfl, h2, TRs_frame _ _ _ hc h3, rfl⟩, rfl⟩
theorem Win.frame {s s' : St} {o : Bool} {cs : List T} {h b : Nat} {F : List Nat} (hw : Win s o cs h b F) (hf : ∀ x ∈ F, s'.get x = s.get x) : Win s' o cs h b F := by
  obtain ⟨ob, F', h1, h2, h3, h4, rfl⟩ := hw
  exact ⟨ob, F', by rw [hf h (by simp)]; exact h1, h2, h3, TRs_frame _ _ _ (fun x hx => hf x (by simp [hx])) h4, rfl⟩
theorem Win.ro {s : St} {o : Bool} {cs : List T} {h b : Nat} {F : List Nat} (hw : Win s o cs h b F) : Win s false cs h b F := by
  obtain ⟨ob, F', h1, h2, h3, h4, rfl⟩ := hw
  exact ⟨ob, F', h1, (fun h => by cases h), h3, TRs_ro _ _ _ h4, rfl⟩
theorem Win.lt {s : St} {o : Bool} {cs : List T} {h b : Nat} {F : List Nat} (hw : Win s o cs h b F) : ∀ x ∈ F, x < s.n := by
  obtain ⟨ob, F', h1, h2, h3, h4, rfl⟩ := hw
  intro x hx
  rcases List.mem_cons.1 hx with rfl | hx
  · exact St.get_lt h1
  · exact TRs_lt _ _ _ h4 x hx
theorem win_sub {α : Type} (l : List α) (b n i m : Nat) (h : i + m ≤ n) : (((l.drop b).take n).drop i).take m = (l.drop (b + i)).take m := by
  rw [List.drop_take, List.drop_drop, List.take_take]
  congr 1; omega
/-- Part of the cells. -/
theorem Win.sub {s : St} {o : Bool} {cs : List T} {h b : Nat} {F : List Nat} (hw : Win s o cs h b F) {i m : Nat} (hm : i + m ≤ cs.length) : ∃ F', Win s o ((cs.drop i).take m) h (b + i) F' ∧ F'.Sublist F := by
  obtain ⟨ob, F1, h1, h2, h3, h4, rfl⟩ := hw
  obtain ⟨Fa, Fb, Fc, rfl, k1, k2, k3⟩ := TRs_mid h4 i m
  have hl : ((cs.drop i).take m).length = m := by rw [List.length_take, List.length_drop]; omega
  refine ⟨h :: Fb, ⟨ob, Fb, h1, h2, by rw [hl]; omega, ?_, rfl⟩, List.Sublist.cons_cons _ ((List.sublist_append_left Fb Fc).trans (List.sublist_append_right Fa _))⟩
  rw [hl]
  rwa [win_sub _ _ _ _ _ hm] at k2
/-! ### Ways into a tree -/
def node : List T → List Nat → Option (List T)
  | cs, [] => some cs
  | cs, i :: r => match cs[i]? with
    | some (.l _ ds) => node ds r
    | _ => none
/-- In place of what lies there. -/
def nput : List T → List Nat → List T → List T
  | _, [], ds => ds
  | cs, i :: r, ds => match cs[i]? with
    | some (.l e es) => cs.set i (.l e (nput es r ds))
    | _ => cs
/-- Where that lies in memory. -/
def spot (s : St) (h b : Nat) : List Nat → Option (Nat × Nat)
  | [] => some (h, b)
  | i :: r => match s.get h with
    | some ob => match ob.cells[b + i]? with
      | some (.slice (some ⟨h1, b1, none⟩) _ _) => spot s h1 b1 r
      | _ => none
    | none => none
theorem win_at {α : Type} (l : List α) (b n i : Nat) (h : i < n) : ((l.drop b).take n)[i]? = l[b + i]? := by
  rw [List.getElem?_take_of_lt h, List.getElem?_drop]
theorem TR_slice {s : St} {o : Bool} {e : Nat} {cs : List T} {h b n e' : Nat} {F : List Nat} (ht : TR s o (.l e cs) (.slice (some ⟨h, b, none⟩) n e') F) : e' = e ∧ cs.length = n * e ∧ Win s o cs h b F := by
  rcases TR_l.1 ht with ⟨h1, _⟩ | ⟨h', b', n', h1, h2, h3⟩
  · cases h1
  · cases h1; exact ⟨rfl, h2, h3⟩
/-- What lies on a way: nothing, or cells at the spot, in some of the rows. -/
theorem Win.node {s : St} {o : Bool} : ∀ {pre : List Nat} {cs ds : List T} {h b : Nat} {F : List Nat}, Win s o cs h b F → node cs pre = some ds → (ds = [] ∧ pre ≠ [] ∧ spot s h b pre = none) ∨ ∃ h' b' F', spot s h b pre = some (h', b') ∧ Win s o ds h' b' F' ∧ F'.Sublist F
  | [], cs, ds, h, b, F, hw, hn => by
    simp only [Eng.node, Option.some.injEq] at hn
    subst hn
    exact .inr ⟨h, b, F, rfl, hw, List.Sublist.refl _⟩
  | i :: r, cs, ds, h, b, F, hw, hn => by
    simp only [Eng.node] at hn
    obtain ⟨ob, F1, h1, h2, h3, h4, rfl⟩ := hw
    split at hn
    · rename_i e es hi
      have hlt := (List.getElem?_eq_some_iff.1 hi).1
      obtain ⟨u, F2, hu, ht, hsub⟩ := TRs_get h4 hi
      rw [win_at _ _ _ _ hlt] at hu
      rcases TR_l.1 ht with ⟨rfl, rfl, rfl⟩ | ⟨h', b', n', rfl, hl, hw'⟩
      · left
        refine ⟨?_, by simp, by simp only [spot, h1, hu, nl]⟩
        cases r with
        | nil => simpa [Eng.node] using hn.symm
        | cons j r => simp [Eng.node] at hn
      · rcases Win.node hw' hn with ⟨hd, _, hs⟩ | ⟨h'', b'', F3, k1, k2, k3⟩
        · exact .inl ⟨hd, by simp, by simp only [spot, h1, hu, sl]; exact hs⟩
        · exact .inr ⟨h'', b'', F3, by simp only [spot, h1, hu, sl]; exact k1, k2, (k3.trans hsub).cons _⟩
    · cases hn
theorem spot_frame {s s' : St} {o : Bool} : ∀ {pre : List Nat} {cs : List T} {h b : Nat} {F : List Nat}, Win s o cs h b F → (∀ x ∈ F, s'.get x = s.get x) → (node cs pre).isSome → spot s' h b pre = spot s h b pre
  | [], cs, h, b, F, hw, hf, hn => rfl
  | i :: r, cs, h, b, F, hw, hf, hn => by
    obtain ⟨ob, F1, h1, h2, h3, h4, rfl⟩ := hw
    simp only [Eng.node] at hn
    split at hn
    · rename_i e es hi
      have hlt := (List.getElem?_eq_some_iff.1 hi).1
      obtain ⟨u, F2, hu, ht, hsub⟩ := TRs_get h4 hi
      rw [win_at _ _ _ _ hlt] at hu
      simp only [spot, hf h (by simp), h1, hu]
      rcases TR_l.1 ht with ⟨rfl, _⟩ | ⟨h', b', n', rfl, hl, hw'⟩
      · rfl
      · simp only [sl]
        exact spot_frame hw' (fun x hx => hf x (by simp [hsub.subset hx])) hn
    · cases hn
end Go.Proofs.Ytmikdglafmfnfaa.Eng
